/- Lemmas and contracts. Conditions: as each says. -/
import Derived.Test.YtpdidilobgimcaaGreatQ13
import Derived.Test.YtpdidilobgimcaaGreatQ14
set_option linter.unusedVariables false
set_option linter.unusedSimpArgs false
set_option maxHeartbeats 12800000
set_option maxRecDepth 20000
namespace Go.X
open Go.RowKit Go.Proofs Go.Bl Go.Proofs.Tryz
variable {L:Own} {h:PH} {K:PK}
theorem Zbv {α:Type}(z:α)(q:α→Bool)(l:List α)(hq:∀j,j<l.length→q (gr z l j)=true):l.all q=true:=by
 rw[List.all_eq_true];intro x hx;obtain⟨j,hj,rfl⟩:=List.mem_iff_getElem.1 hx;have:=hq j hj
 rwa [Yc hj]at this
theorem YY {α:Type}(z:α)(q:α→Bool)(l:List α){k:Nat}(hk:k<l.length)(hq:q (gr z l k)=false):l.all q=false:=by
 rw[List.all_eq_false];rw[Yc hk]at hq;exact⟨l[k],List.getElem_mem hk,by simp [hq]⟩
theorem Yrv (q:Int→Bool)(l:List Int)(hq:∀j,j<l.length→q (at0 l j)=true):l.all q=true:=Zbv 0 q l hq
theorem Znx (q:Int→Bool)(l:List Int){k:Nat}(hk:k<l.length)(hq:q (at0 l k)=false):l.all q=false:=YY 0 q l hk hq
theorem Zp.slices {v:SV}{s:Zf}(hs:Zp h v s):∃pa pc ma mc ea ec xa xc oa oc da dc ta tc ka kc ra rc,
  v=⟨.slice pa s.purses.length pc,.slice ma s.members.length mc,.slice ea s.entry.length ec,.slice xa s.exit.length xc,.slice oa s.pool.length oc,.slice da s.dues.length dc,.slice ta s.motions.length tc,.slice ka s.marks.length kc,.slice ra s.ring.length rc⟩:=by
 obtain⟨pa,pc,hp,_⟩:=hs.p.open;obtain⟨ma,mc,hm,_⟩:=hs.m.open;obtain⟨ea,ec,he,_⟩:=hs.e.open;obtain⟨xa,xc,hx,_⟩:=hs.x.open;obtain⟨oa,oc,ho,_⟩:=hs.o.open;obtain⟨da,dc,hd,_⟩:=hs.d.open;obtain⟨q,t1,t2,_⟩:=hs.t;obtain⟨ta,tc,ht,_⟩:=t1.open;obtain⟨ka,kc,hk,_⟩:=hs.k.open;obtain⟨r,r1,r2⟩:=hs.r;obtain⟨ra,rc,hr,_⟩:=r1.open;refine⟨pa,pc,ma,mc,ea,ec,xa,xc,oa,oc,da,dc,ta,tc,ka,kc,ra,rc,?_⟩;rw[← t2,← r2,List.length_map,VA];obtain⟨vp,vm,ve,vx,vo,vd,vt,vk,vr⟩:=v;simp only at hp hm he hx ho hd ht hk hr;subst hp hm he hx ho hd ht hk hr
 rfl
theorem Um (n lo hi:Int)(hk:K (.bool (wi n lo hi)) L h):Zb prog 60 [.int .i64 n,.int .i64 lo,.int .i64 hi] L h K:=by
 unfold wi at hk;refine ZR func60 rfl (rs:=[_]) rfl rfl ZW (by kernel_rfl) rfl rfl ?_;refine xx ?_;by_cases c:lo≤n
 ·refine xx ?_;exact ZP (by simpa [c] using hk)
 ·refine xx ?_;exact ZP (by simpa [c] using hk)
theorem Jb (n lo hi:Int)(hk:K (.bool (wi n lo hi)) L h):Zb prog 288 [.int .i64 n,.int .i64 lo,.int .i64 hi] L h K:=by
 unfold wi at hk;refine ZR func288 rfl (rs:=[_]) rfl rfl ZW (by kernel_rfl) rfl rfl ?_;refine xx ?_;by_cases c:lo≤n
 ·refine xx ?_;exact ZP (by simpa [c] using hk)
 ·refine xx ?_;exact ZP (by simpa [c] using hk)
theorem Zin (n lo hi:Int)(hk:K (.bool (wi n lo hi)) L h):Zb prog 287 [.int .i64 n,.int .i64 lo,.int .i64 hi] L h K:=by
 unfold wi at hk;refine ZR func287 rfl (rs:=[_]) rfl rfl ZW (by kernel_rfl) rfl rfl ?_;refine xx ?_;by_cases c:lo≤n
 ·refine xx ?_;exact ZP (by simpa [c] using hk)
 ·refine xx ?_;exact ZP (by simpa [c] using hk)
def VI (s:Zf)(i:Int):Bool:=wi i 0 ((s.purses.length:Int)-1)
theorem Vn {s:Zf}(v:SV)(hs:Zp h v s)(few:ZD s)(i:Int)(hk:K (.bool (VI s i)) L h):Zb prog 172 [stV s v,.int .i64 i] L h K:=by
 obtain⟨pa,pc,hp,_⟩:=hs.p.open;have fp:=few.p;unfold VI at hk;refine ZR func172 rfl (rs:=[_]) rfl rfl ZW (by kernel_rfl) rfl rfl ?_;refine xx ?_;refine Z0 fun b1 nb1 zb1=>?_;(try simp only[ZU]at nb1);simp -dsimp -implicitDefEqProofs (disch:=first|with_reducible assumption|omega) [go_sem,hp];refine Um _ _ _ ?_;refine xx ?_;exact ZO (ZP hk)
def Uq (s:Zf):Bool:=wi s.purses.length 1 64&&s.purses.all fun z=>decide (z≤4611686018427387904)
theorem Zop {s:Zf}(v:SV)(hs:Zp h v s)(few:ZD s)(hk:K (.bool (Uq s)) L h):Zb prog 61 [stV s v] L h K:=by
 have hw:=hs.p.word;obtain⟨pa,pc,hp,hc,hl,_,hcs⟩:=hs.p.open;have fp:=few.p;unfold Uq at hk;refine ZR func61 rfl (rs:=[_]) rfl rfl ZW (by kernel_rfl) rfl rfl ?_;refine xx ?_;refine Z0 fun b1 nb1 zb1=>?_;(try simp only[ZU]at nb1);simp -dsimp -implicitDefEqProofs (disch:=first|with_reducible assumption|omega) [go_sem,hp];refine Um _ _ _ ?_
 cases hq:wi s.purses.length 1 64 with
 | false =>
  rw[hq]at hk;refine xx ?_;exact ZO (ZP (by simpa using hk))
 | true =>
  rw[hq,Bool.true_and]at hk;simp -dsimp -implicitDefEqProofs (disch:=first|with_reducible assumption|omega) [go_sem,hp];refine YJ (0:Nat) (fun k=>k≤s.purses.length∧∀j,j<k→at0 s.purses j≤4611686018427387904) (fun k=>[(15,.int .i64 k),(14,.int .i64 s.purses.length),(13,.slice pa s.purses.length pc)]) (fun _=>L) (fun _=>h) (fun k=>s.purses.length-k) ?_ ?_ ?_ ?_
  ·exact⟨Nat.zero_le _,fun j hj=>by omega⟩
  ·simp [Ent,List.lookup,Wv,hp]
  ·exact Za.tail _ _ _
  rintro k ⟨k1,k2⟩;have hwk:=hw k;by_cases c1:k<s.purses.length
  ·by_cases c2:at0 s.purses k≤4611686018427387904
   ·simp -dsimp -implicitDefEqProofs (disch:=first|with_reducible assumption|omega) [go_sem,idx hcs];refine⟨k+1,⟨by omega,fun j hj=>?_⟩,by omega,by simp [Ent,List.lookup],Za.refl _ _⟩;by_cases e:j=k
    ·subst e;exact c2
    ·exact k2 j (by omega)
   ·rw[Znx _ _ c1 (decide_eq_false c2)]at hk;simp -dsimp -implicitDefEqProofs (disch:=first|with_reducible assumption|omega) [go_sem,idx hcs];exact ZP hk
  ·rw[Yrv _ _ (fun j hj=>decide_eq_true (k2 j (by omega)))]at hk;refine xx ?_;exact ZP hk
theorem Zfy {zs:List Int}(v:Value)(x:Int)(hz:Ints h .i64 v zs)(hx : -9223372036854775808≤x∧x≤9223372036854775807)(hk:∀i:Int,-1≤i→i≤9223372036854775807→(0≤i↔x∈zs)→K (.int .i64 i) L h):Zb prog 340 [v,.int .i64 x] L h K:=by
 have hn:=hz.num;obtain⟨a,c,rfl,hcap,hl,_,hcs⟩:=hz.open;refine ZR func340 rfl (rs:=[_]) rfl rfl ZW (by kernel_rfl) rfl rfl ?_;refine xx ?_;refine Vk (0:Nat) (fun k=>k≤zs.length∧∀j,j<k→at0 zs j≠x) (fun k=>[(8,.int .i64 k),(7,.int .i64 zs.length),(0,.slice a zs.length c),(1,.int .i64 x)]) (fun k=>zs.length-k) ?_ ?_ ?_
 ·exact⟨Nat.zero_le _,fun j hj=>by omega⟩
 ·simp [Ent,List.lookup,Wv]
 rintro k ⟨k1,k2⟩;by_cases c1:k<zs.length
 ·by_cases c2:x=at0 zs k
  ·simp -dsimp -implicitDefEqProofs (disch:=first|with_reducible assumption|omega) [go_sem,idx hcs];refine ZP (hk k (by omega) (by omega) ⟨fun _=>?_,fun _=>by omega⟩);rw[c2,← Yh c1];exact List.getElem_mem c1
  ·simp -dsimp -implicitDefEqProofs (disch:=first|with_reducible assumption|omega) [go_sem,idx hcs];refine⟨k+1,⟨by omega,fun j hj=>?_⟩,by omega,by simp [Ent,List.lookup],Za.refl _ _⟩;by_cases e:j=k
   ·subst e;exact fun e=>c2 e.symm
   ·exact k2 j (by omega)
 ·refine xx ?_;refine ZP (hk (-1) (by omega) (by omega) ⟨fun hh=>by omega,fun hm=>?_⟩);obtain⟨j,hj,e⟩:=List.mem_iff_getElem.1 hm;exact absurd (by rw[← Yh hj,e]) (k2 j (by omega))
theorem Zfd {zs:List Int}(v:Value)(x:Int)(hz:Ints h .i64 v zs)(hx : -9223372036854775808≤x∧x≤9223372036854775807)(hk:K (.bool (decide (x∈zs))) L h):Zb prog 269 [v,.int .i64 x] L h K:=by
 have hz':=hz;obtain⟨a,c,rfl,hcap,hl,_,hcs⟩:=hz.open;refine ZR func269 rfl (rs:=[_]) rfl rfl ZW (by kernel_rfl) rfl rfl ?_;refine xx ?_;refine Zfy _ x hz' hx fun i i1 i2 i3=>?_;refine xx ?_;have:decide (0≤i)=decide (x∈zs):=by simp only[i3]
 refine ZP ?_;rw[this];exact hk
def Zqe (l:List Zc)(st:Int):Nat→Nat
 | 0=>0
 | k+1=>Zqe l st k+if (gr ZT l k).status=st then 1 else 0
theorem Zvz (l:List Zc)(st:Int):∀k,Zqe l st k≤k
 | 0=>Nat.le_refl _
 | k+1=>by have:=Zvz l st k;simp only[Zqe];split<;>omega
def Ygf (s:Zf)(l:List Int)(st:Int):Bool:=(List.range s.members.length).all fun j => !decide ((gr ZT s.members j).status=st)||decide ((j:Int)∈l)
def Zyk (s:Zf)(l:List Int)(st:Int):Bool:=Ygf s l st&&decide (l.length=Zqe s.members st s.members.length)
theorem Zez {s:Zf}{l:List Int}{st:Int}(hq:∀j,j<s.members.length→(gr ZT s.members j).status=st→(j:Int)∈l):Ygf s l st=true:=by
 rw[Ygf,List.all_eq_true];intro j hj;by_cases e:(gr ZT s.members j).status=st
 ·simp [e,hq j (List.mem_range.1 hj) e]
 ·simp [e]
theorem Zpg {s:Zf}{l:List Int}{st:Int}{k:Nat}(hk:k<s.members.length)(e:(gr ZT s.members k).status=st)(hn:(k:Int) ∉ l):Ygf s l st=false:=by
 rw[Ygf,List.all_eq_false];exact⟨k,List.mem_range.2 hk,by simp [e,hn]⟩
theorem Zsk {s:Zf}(v:SV)(hs:Zp h v s)(few:ZD s){l:List Int}(lv:Value)(hlv:Ints h .i64 lv l)(st:Int)(hst : -9223372036854775808≤st∧st≤9223372036854775807)(hk:K (.bool (Zyk s l st)) L h):Zb prog 173 [stV s v,lv,.int .i64 st] L h K:=by
 obtain⟨ma,mc,hm,hmc,hml,_,hd⟩:=hs.m.open;have fm:=few.m;have hlv':=hlv;obtain⟨la,lc,rfl,hlc,hll,_,hcs⟩:=hlv.open;refine ZR func173 rfl (rs:=[_]) rfl rfl ZW (by kernel_rfl) rfl rfl ?_;refine xx ?_;refine Z0 fun b1 nb1 zb1=>?_;(try simp only[ZU]at nb1);simp -dsimp -implicitDefEqProofs (disch:=first|with_reducible assumption|omega) [go_sem,hm];refine YJ (0:Nat) (fun k=>k≤s.members.length∧∀j,j<k→(gr ZT s.members j).status=st→(j:Int)∈l) (fun k=>[(14,.int .i64 k),(13,.int .i64 s.members.length),(12,.slice ma s.members.length mc),(7,.int .i64 (Zqe s.members st k)),(1,.slice la l.length lc),(2,.int .i64 st)]) (fun _=>L) (fun _=>h) (fun k=>s.members.length-k) ?_ ?_ ?_ ?_
 ·exact⟨Nat.zero_le _,fun j hj=>by omega⟩
 ·simp [Ent,List.lookup,Wv,hm,Zqe]
 ·exact Za.tail _ _ _
 rintro k ⟨k1,k2⟩;have hcl:=Zvz s.members st k;by_cases c1:k<s.members.length
 ·have hxo:=hs.mo (gr ZT s.members k) (by rw[Yc c1];exact List.getElem_mem c1);simp -dsimp -implicitDefEqProofs (disch:=first|with_reducible assumption|omega) [go_sem,↓Zci ZT (by decide) hd,YE];refine Z0 fun b2 nb2 zb2=>?_;(try simp only[ZU]at nb2);by_cases c2:(gr ZT s.members k).status=st
  ·simp -dsimp -implicitDefEqProofs (disch:=first|with_reducible assumption|omega) [go_sem,YE];refine Zfd _ k hlv' ⟨by omega,by omega⟩ ?_;by_cases c3:(k:Int)∈l
   ·rw[decide_eq_true c3];refine xx ?_;refine⟨k+1,⟨by omega,fun j hj=>?_⟩,by omega,by simp [Ent,List.lookup,Zqe,c2],Za.tail _ _ _⟩;by_cases e:j=k
    ·subst e;exact fun _=>c3
    ·exact k2 j (by omega)
   ·rw[Zyk,Zpg c1 c2 c3]at hk;rw[decide_eq_false c3];refine xx ?_;exact ZO (ZP hk)
  ·simp -dsimp -implicitDefEqProofs (disch:=first|with_reducible assumption|omega) [go_sem,YE];refine⟨k+1,⟨by omega,fun j hj=>?_⟩,by omega,by simp [Ent,List.lookup,Zqe,c2],Za.tail _ _ _⟩;by_cases e:j=k
   ·subst e;exact fun e=>absurd e c2
   ·exact k2 j (by omega)
 ·have hkl:k=s.members.length:=by omega
  subst hkl;rw[Zyk,Zez k2,Bool.true_and]at hk;refine xx ?_;refine ZP ?_;have e:decide ((l.length:Int)=(Zqe s.members st s.members.length:Nat))=decide (l.length=Zqe s.members st s.members.length):=by simp only[Int.natCast_inj]
  first
   | exact hk
   | (rw[e];exact hk)
def WK (s:Zf):Bool:=decide (s.members.length≤128)&&s.members.all (fun m=>Vp s.par m&&VI s m.owner)&&Zyk s s.entry 1&&Zyk s s.exit 3
theorem Zje {s:Zf}(v:SV)(hs:Zp h v s)(few:ZD s)(hr:Yb s.par=true)(hk:K (.bool (WK s)) L h):Zb prog 62 [stV s v] L h K:=by
 obtain⟨pa,pc,ma,mc,ea,ec,xa,xc,oa,oc,da,dc,ta,tc,ka,kc,ra,rc,rfl⟩:=hs.slices;have hd:Zj YE 6 h (.slice ma s.members.length mc) s.members:=hs.m;have fm:=few.m;unfold WK at hk;refine ZR func62 rfl (rs:=[_]) rfl rfl ZW (by kernel_rfl) rfl rfl ?_;refine xx ?_;refine Z0 fun b1 nb1 zb1=>?_;(try simp only[ZU]at nb1);refine xx ?_;by_cases c0:s.members.length≤128
 ·rw[decide_eq_true c0,Bool.true_and]at hk;refine xx ?_;refine YJ (0:Nat) (fun k=>k≤s.members.length∧∀j,j<k→(fun m:Zc=>Vp s.par m&&VI s m.owner) (gr ZT s.members j)=true) (fun k=>[(14,.int .i64 k),(13,.int .i64 s.members.length),(12,.slice ma s.members.length mc),(1,.pointer (some ⟨b1,0,none⟩))]) (fun _=>⟨b1,127,stC s ⟨.slice pa s.purses.length pc,.slice ma s.members.length mc,.slice ea s.entry.length ec,.slice xa s.exit.length xc,.slice oa s.pool.length oc,.slice da s.dues.length dc,.slice ta s.motions.length tc,.slice ka s.marks.length kc,.slice ra s.ring.length rc⟩,41⟩::L) (fun _=>h) (fun k=>s.members.length-k) ?_ ?_ ?_ ?_
  ·exact⟨Nat.zero_le _,fun j hj=>by omega⟩
  ·simp [Ent,List.lookup,Wv]
  ·exact Za.refl _ _
  rintro k ⟨k1,k2⟩;by_cases c1:k<s.members.length
  ·have hxo:=hs.mo (gr ZT s.members k) (by rw[Yc c1];exact List.getElem_mem c1);simp -dsimp -implicitDefEqProofs (disch:=first|with_reducible assumption|omega) [go_sem,↓Zci ZT (by decide) hd,YE];refine Z0 fun b2 nb2 zb2=>?_;(try simp only[ZU]at nb2);simp -dsimp -implicitDefEqProofs (disch:=first|with_reducible assumption|omega) [go_sem,YE];refine Zqn s.par hs.ok.p (gr ZT s.members k) hxo ?_;rw[hr,Bool.true_and]
   cases hq:Vp s.par (gr ZT s.members k) with
   | false =>
    rw[YY ZT _ _ c1 (by rw[hq];rfl)]at hk;refine xx ?_;exact ZO (ZO (ZP (by simpa using hk)))
   | true =>
    refine xx ?_;refine Vn _ hs few _ ?_
    cases hq2:VI s (gr ZT s.members k).owner with
    | false =>
     rw[YY ZT _ _ c1 (by rw[hq,hq2];rfl)]at hk;refine xx ?_;exact ZO (ZO (ZP (by simpa using hk)))
    | true =>
     refine xx ?_;refine⟨k+1,⟨by omega,fun j hj=>?_⟩,by omega,by simp [Ent,List.lookup],Za.tail _ _ _⟩;by_cases e:j=k
     ·subst e;first|exact⟨hq,hq2⟩ | (simp only[hq,hq2];rfl)|simp [hq,hq2]
     ·first|exact k2 j (by omega)|simpa using k2 j (by omega)
  ·have hkl:k=s.members.length:=by omega
   subst hkl;rw[Zbv ZT _ _ k2,Bool.true_and]at hk;refine xx ?_;refine Zsk _ hs few _ hs.e 1 (by decide) ?_
   cases hq:Zyk s s.entry 1 with
   | false =>
    rw[hq]at hk;refine xx ?_;exact ZO (ZP (by simpa using hk))
   | true =>
    rw[hq]at hk;refine xx ?_;refine Zsk _ hs few _ hs.x 3 (by decide) ?_;refine xx ?_;exact ZO (ZP (by simpa using hk))
 ·rw[decide_eq_false c0]at hk;refine xx ?_;exact ZO (ZP (by simpa using hk))
def parKS:List IntKind:=[.u64,.u64,.u64,.u64,.u64,.u64,.u64,.u64,.u64,.u64,.u64,.u64,.u64,.u64,.i64,.i64,.i64,.i64,.i64,.i64,.i64,.i64,.i64,.i64]
abbrev motV (m:Zm)(y n:Value):Value := .agg #[.int .i64 m.acct,.int .i64 m.what,.int .u64 m.par.inc,.int .u64 m.par.maxEff,.int .u64 m.par.floor,.int .u64 m.par.cap,.int .u64 m.par.up,.int .u64 m.par.down,.int .u64 m.par.bias,.int .u64 m.par.quot,.int .u64 m.par.biasEm,.int .u64 m.par.quotEm,.int .u64 m.par.recover,.int .u64 m.par.scoreCap,.int .u64 m.par.rate,.int .u64 m.par.bond,.int .i64 m.par.delay,.int .i64 m.par.streak,.int .i64 m.par.boost,.int .i64 m.par.absent,.int .i64 m.par.burn,.int .i64 m.par.churn,.int .i64 m.par.wait,.int .i64 m.par.poll,.int .i64 m.par.enact,.int .i64 m.par.quorum,.int .i64 m.to,.int .u64 m.amt,.int .i64 m.ends,.int .i64 m.due,.int .i64 m.state,y,n]
def WH (m:Zm):Bool:=wi m.acct 0 63&&wi m.to 0 63&&wi m.what 1 4&&wi m.state 1 4
def VH (m:Zm):Bool:=wi m.ends 0 2147483647&&wi m.due 0 2147483647&&decide (m.amt≤4611686018427387904)
def UE (m:Zm):Bool:=WH m&&VH m&&Zbm m.yes 128&&Zbm m.no 128&&(if m.what=1 then Yb m.par else decide (m.par=Zhs))
theorem Yky (p q:Zd):decide (YA p++Y9 p=YA q++Y9 q)=decide (p=q):=by
 apply decide_eq_decide.2
 constructor
 ·intro e;simp only[YA,Y9,List.cons_append,List.nil_append,List.cons.injEq,and_true]at e
  cases p;cases q;simp only at e;simp only[Zd.mk.injEq];exact e
 ·rintro rfl;rfl
theorem Yos (p q:Zd)(x y:Operand)(K:Value→Prop)(t:Zo K):Ur prog .eql 24 x y (W5 p) (W5 q) K t=K (.bool (decide (p=q))):=by
 rw[← Yky];exact Zai (T:=24) (ks:=parKS) (by kernel_rfl) (by kernel_rfl) (by kernel_rfl) (by kernel_rfl) (YA p++Y9 p) (YA q++Y9 q) rfl rfl x y K t
theorem Zjn (m:Zm)(y n:Value)(hy:Ints h .u8 y m.yes)(hn:Ints h .u8 n m.no)(ok:Yym m)(hk:K (.bool (UE m)) L h):Zb prog 175 [motV m y n] L h K:=by
 have hy':=hy;have hn':=hn;obtain⟨ya,yc,rfl,_⟩:=hy.open;obtain⟨na,nc,rfl,_⟩:=hn.open;have ua:=ok.a;unfold UE at hk;refine ZR func175 rfl (rs:=[_]) rfl rfl ZW (by kernel_rfl) rfl rfl ?_;refine xx ?_;refine Z0 fun b1 nb1 zb1=>?_;(try simp only[ZU]at nb1);refine xx ?_;have no1:∀X:Bool,WH m=false→K (.bool (WH m&&X)) L h→K (.bool false) L h:=fun X e k=>by rwa [e]at k
 refine Jb _ _ _ ?_
 cases q1:wi m.acct 0 63 with
 | false =>
  rw[show WH m=false by simp [WH,q1]]at hk;refine xx ?_;exact ZO (ZP (by simpa using hk))
 | true =>
 refine xx ?_;refine Jb _ _ _ ?_
 cases q2:wi m.to 0 63 with
 | false =>
  rw[show WH m=false by simp [WH,q2]]at hk;refine xx ?_;exact ZO (ZP (by simpa using hk))
 | true =>
 refine xx ?_;refine Jb _ _ _ ?_
 cases q3:wi m.what 1 4 with
 | false =>
  rw[show WH m=false by simp [WH,q3]]at hk;refine xx ?_;exact ZO (ZP (by simpa using hk))
 | true =>
 refine xx ?_;refine Jb _ _ _ ?_
 cases q4:wi m.state 1 4 with
 | false =>
  rw[show WH m=false by simp [WH,q4]]at hk;refine xx ?_;exact ZO (ZP (by simpa using hk))
 | true =>
 rw[show WH m=true by simp [WH,q1,q2,q3,q4],Bool.true_and]at hk;refine xx ?_;refine Jb _ _ _ ?_
 cases q5:wi m.ends 0 2147483647 with
 | false =>
  rw[show VH m=false by simp [VH,q5]]at hk;refine xx ?_;exact ZO (ZP (by simpa using hk))
 | true =>
 refine xx ?_;refine Jb _ _ _ ?_
 cases q6:wi m.due 0 2147483647 with
 | false =>
  rw[show VH m=false by simp [VH,q6]]at hk;refine xx ?_;exact ZO (ZP (by simpa using hk))
 | true =>
 by_cases q7:m.amt≤4611686018427387904
 ·rw[show VH m=true by simp [VH,q5,q6,q7],Bool.true_and]at hk;refine xx ?_;refine Zif _ 128 hy' (by decide) (by decide) ?_
  cases q8:Zbm m.yes 128 with
  | false =>
   rw[q8]at hk;refine xx ?_;exact ZO (ZP (by simpa using hk))
  | true =>
  rw[q8,Bool.true_and]at hk;refine xx ?_;refine Zif _ 128 hn' (by decide) (by decide) ?_
  cases q9:Zbm m.no 128 with
  | false =>
   rw[q9]at hk;refine xx ?_;exact ZO (ZP (by simpa using hk))
  | true =>
  rw[q9,Bool.true_and]at hk;by_cases c:m.what=1
  ·rw[if_pos c]at hk;refine xx ?_;refine WN m.par ok.p ?_
   cases hr:Yb m.par with
   | false =>
    rw[hr]at hk;refine xx ?_;exact ZO (ZP hk)
   | true =>
    rw[hr]at hk;refine xx ?_;exact ZO (ZP hk)
  ·rw[if_neg c]at hk;refine xx ?_;refine(Yos m.par Zhs _ _ _ _).mpr ?_;refine xx ?_;exact ZO (ZP hk)
 ·rw[show VH m=false by simp [VH,q7]]at hk;refine xx ?_;exact ZO (ZP (by simpa using hk))
def Vv (s:Zf):Bool:=decide (s.motions.length≤32)&&s.motions.all (fun m=>UE m&&VI s m.acct&&VI s m.to)
theorem Zjt {s:Zf}(v:SV)(hs:Zp h v s)(few:ZD s)(hk:K (.bool (Vv s)) L h):Zb prog 64 [stV s v] L h K:=by
 obtain⟨pa,pc,ma,mc,ea,ec,xa,xc,oa,oc,da,dc,ta,tc,ka,kc,ra,rc,rfl⟩:=hs.slices;obtain⟨q,hd,t2,t3⟩:=hs.t;have fm:=few.t;have hql:q.length=s.motions.length:=by rw[← t2,List.length_map]
 have hgr:∀k,k<q.length→gr Yg s.motions k=(gr Z4 q k).2.2:=fun k hk=>by
  rw[Yc hk,Yc (by omega)];simp only[← t2,List.getElem_map]
 unfold Vv at hk;refine ZR func64 rfl (rs:=[_]) rfl rfl ZW (by kernel_rfl) rfl rfl ?_;refine xx ?_;refine Z0 fun b1 nb1 zb1=>?_;(try simp only[ZU]at nb1);refine xx ?_;by_cases c0:s.motions.length≤32
 ·rw[decide_eq_true c0,Bool.true_and]at hk;refine xx ?_;refine YJ (0:Nat) (fun k=>k≤s.motions.length∧∀j,j<k→(fun m:Zm=>UE m&&VI s m.acct&&VI s m.to) (gr Yg s.motions j)=true) (fun k=>[(14,.int .i64 k),(13,.int .i64 s.motions.length),(12,.slice ta s.motions.length tc),(1,.pointer (some ⟨b1,0,none⟩))]) (fun _=>⟨b1,127,stC s ⟨.slice pa s.purses.length pc,.slice ma s.members.length mc,.slice ea s.entry.length ec,.slice xa s.exit.length xc,.slice oa s.pool.length oc,.slice da s.dues.length dc,.slice ta s.motions.length tc,.slice ka s.marks.length kc,.slice ra s.ring.length rc⟩,41⟩::L) (fun _=>h) (fun k=>s.motions.length-k) ?_ ?_ ?_ ?_
  ·exact⟨Nat.zero_le _,fun j hj=>by omega⟩
  ·simp [Ent,List.lookup,Wv]
  ·exact Za.refl _ _
  rintro k ⟨k1,k2⟩;by_cases c1:k<s.motions.length
  ·have hx:Zu h (gr Z4 q k):=by rw[Yc (by omega)];exact t3 _ (List.getElem_mem (by omega))
   have hg:=hgr k (by omega);obtain⟨x1,y1,hv1,_⟩:=hx.y.open;obtain⟨x2,y2,hv2,_⟩:=hx.n.open;simp -dsimp -implicitDefEqProofs (disch:=first|with_reducible assumption|omega) [go_sem,↓Zci Z4 (by decide) hd,Wk];refine Z0 fun b2 nb2 zb2=>?_;(try simp only[ZU]at nb2);simp -dsimp -implicitDefEqProofs (disch:=first|with_reducible assumption|omega) [go_sem,Wk,hv1,hv2];have m1:=hx.y;have m2:=hx.n;rw[hv1]at m1;rw[hv2]at m2;refine Zjn (gr Z4 q k).2.2 _ _ m1 m2 hx.ok ?_
   cases hq:UE (gr Z4 q k).2.2 with
   | false =>
    rw[YY Yg _ _ c1 (by rw[hg,hq];rfl)]at hk;refine xx ?_;exact ZO (ZO (ZP (by simpa using hk)))
   | true =>
   refine xx ?_;refine Vn _ hs few _ ?_
   cases hq2:VI s (gr Z4 q k).2.2.acct with
   | false =>
    rw[YY Yg _ _ c1 (by rw[hg,hq,hq2];rfl)]at hk;refine xx ?_;exact ZO (ZO (ZP (by simpa using hk)))
   | true =>
   refine xx ?_;refine Vn _ hs few _ ?_
   cases hq3:VI s (gr Z4 q k).2.2.to with
   | false =>
    rw[YY Yg _ _ c1 (by rw[hg,hq,hq2,hq3];rfl)]at hk;refine xx ?_;exact ZO (ZO (ZP (by simpa using hk)))
   | true =>
   refine xx ?_;refine⟨k+1,⟨by omega,fun j hj=>?_⟩,by omega,by simp [Ent,List.lookup],Za.tail _ _ _⟩;by_cases e:j=k
   ·subst e;first|exact⟨⟨hq,hq2⟩,hq3⟩ | simp [hg,hq,hq2,hq3]
   ·first|exact k2 j (by omega)|simpa using k2 j (by omega)
  ·have hkl:k=s.motions.length:=by omega
   subst hkl;rw[Zbv Yg _ _ k2]at hk;refine xx ?_;exact ZO (ZP hk)
 ·rw[decide_eq_false c0]at hk;refine xx ?_;exact ZO (ZP (by simpa using hk))
theorem Gi {bs:List Int}(v:Value)(hb:Ints h .u8 v bs)(hk:K (.bool (Zbm bs 128)) L h):Zb prog 289 [v] L h K:=by
 have hb':=hb;obtain⟨a,c,rfl,_⟩:=hb.open;refine ZR func289 rfl (rs:=[_]) rfl rfl ZW (by kernel_rfl) rfl rfl ?_;refine xx ?_;refine Zif _ 128 hb' (by decide) (by decide) ?_
 cases hc:Zbm bs 128 with
 | false =>
  rw[hc]at hk;refine xx ?_;exact ZP hk
 | true =>
  rw[hc]at hk;refine xx ?_;exact ZP hk
def Zex (ring:List (List Int))(marks:List Int):Bool:=decide (ring.length≤8)&&Zbm marks 128&&ring.all (fun b=>Zbm b 128)
theorem Zwe {l:List QS}{bs:List Int}(v u:Value)(hv:Zw h v l)(hu:Ints h .u8 u bs)(hn:l.length≤100000)(hk:K (.int .i64 (if Zex (xsL l) bs then 0 else 60)) L h):Zb prog 176 [v,u] L h K:=by
 have hu':=hu;obtain⟨a,c,rfl,hc,hl,_,hcx,hd⟩:=hv.open;obtain⟨b,c',rfl,_⟩:=hu.open;unfold Zex at hk;rw[VA]at hk;refine ZR func176 rfl (rs:=[_]) rfl rfl ZW (by kernel_rfl) rfl rfl ?_;refine xx ?_;by_cases c0:l.length≤8
 ·rw[decide_eq_true c0,Bool.true_and]at hk;refine xx ?_;refine Gi _ hu' ?_
  cases h1:Zbm bs 128 with
  | false =>
   rw[h1]at hk;refine xx ?_;exact ZP (by simpa using hk)
  | true =>
  rw[h1,Bool.true_and]at hk;refine xx ?_;refine Vk (0:Nat) (fun k=>k≤l.length∧∀j,j<k→Zbm (gs l j).2 128=true) (fun k=>[(17,.int .i64 k),(16,.int .i64 l.length),(15,.slice a l.length c)]) (fun k=>l.length-k) ?_ ?_ ?_
  ·exact⟨Nat.zero_le _,fun j hj=>by omega⟩
  ·simp [Ent,List.lookup,Wv]
  rintro k ⟨k1,k2⟩;have hgs:∀j,j<l.length→gr [] (xsL l) j=(gs l j).2:=fun j hj=>by
   rw[Yc (by rw[VA];exact hj),Zba hj];simp [xsL]
  by_cases c1:k<l.length
  ·have hi:=hd.at c1;have hi':=hi;obtain⟨x1,y1,hv1,_⟩:=hi.open;simp -dsimp -implicitDefEqProofs (disch:=first|with_reducible assumption|omega) [go_sem,idx hcx,hv1];rw[hv1]at hi';refine Gi _ hi' ?_
   cases h2:Zbm (gs l k).2 128 with
   | false =>
    rw[YY [] _ _ (k:=k) (by rw[VA];exact c1) (by rw[hgs k c1,h2])]at hk;refine xx ?_;exact ZP (by simpa using hk)
   | true =>
    refine xx ?_;refine⟨k+1,⟨by omega,fun j hj=>?_⟩,by omega,by simp [Ent,List.lookup],Za.refl _ _⟩;by_cases e:j=k
    ·subst e;exact h2
    ·exact k2 j (by omega)
  ·rw[Zbv [] _ _ (fun j hj=>by rw[VA]at hj;rw[hgs j hj];exact k2 j (by omega))]at hk;refine xx ?_;exact ZP (by simpa using hk)
 ·rw[decide_eq_false c0]at hk;refine xx ?_;exact ZP (by simpa using hk)
def JJ (s:Zf):Bool:=Zex s.ring s.marks&&(List.range 128).all fun i=>decide (i<s.members.length) || !Vb s.marks i
theorem Zvt {s:Zf}(v:SV)(hs:Zp h v s)(few:ZD s)(hk:K (.bool (JJ s)) L h):Zb prog 65 [stV s v] L h K:=by
 obtain⟨pa,pc,ma,mc,ea,ec,xa,xc,oa,oc,da,dc,ta,tc,ka,kc,ra,rc,rfl⟩:=hs.slices;obtain⟨q,hd,t2⟩:=hs.r;have fm:=few.m;have fr:=few.r;have hql:q.length=s.ring.length:=by rw[← t2,VA]
 have hkk:=hs.k;simp only at hd hkk;unfold JJ at hk;refine ZR func65 rfl (rs:=[_]) rfl rfl ZW (by kernel_rfl) rfl rfl ?_;refine xx ?_;refine Z0 fun b1 nb1 zb1=>?_;(try simp only[ZU]at nb1);refine xx ?_;refine Zwe _ _ hd hkk (by omega) ?_;rw[t2]
 cases h1:Zex s.ring s.marks with
 | false =>
  rw[h1]at hk;refine xx ?_;exact ZO (ZP (by simpa using hk))
 | true =>
 rw[h1,Bool.true_and]at hk;refine xx ?_;refine YJ s.members.length (fun k=>s.members.length≤k∧k≤100000∧∀j,s.members.length≤j→j<k→Vb s.marks (j:Int)=false) (fun k=>[(3,.int .i64 k),(1,.pointer (some ⟨b1,0,none⟩))]) (fun _=>⟨b1,127,stC s ⟨.slice pa s.purses.length pc,.slice ma s.members.length mc,.slice ea s.entry.length ec,.slice xa s.exit.length xc,.slice oa s.pool.length oc,.slice da s.dues.length dc,.slice ta s.motions.length tc,.slice ka s.marks.length kc,.slice ra s.ring.length rc⟩,41⟩::L) (fun _=>h) (fun k=>100000-k) ?_ ?_ ?_ ?_
 ·exact⟨Nat.le_refl _,fm,fun j hj=>by omega⟩
 ·simp [Ent,List.lookup,Wv]
 ·exact Za.refl _ _
 rintro k ⟨k0,k1,k2⟩;by_cases c1:k<128
 ·refine xx ?_;refine Zab _ k hkk (by omega) ?_
  cases h2:Vb s.marks (k:Int) with
  | true =>
   have:((List.range 128).all fun i=>decide (i<s.members.length) || !Vb s.marks i)=false:=by
    rw[List.all_eq_false];exact⟨k,List.mem_range.2 c1,by simp [h2];omega⟩
   rw[this]at hk;refine xx ?_;exact ZO (ZP hk)
  | false =>
   refine xx ?_;refine⟨k+1,⟨by omega,by omega,fun j hj hj2=>?_⟩,by omega,by simp [Ent,List.lookup],Za.refl _ _⟩;by_cases e:j=k
   ·subst e;exact h2
   ·exact k2 j hj (by omega)
 ·have:((List.range 128).all fun i=>decide (i<s.members.length) || !Vb s.marks i)=true:=by
   rw[List.all_eq_true];intro i hi;have:=List.mem_range.1 hi;by_cases e:i<s.members.length
   ·simp [e]
   ·simp [k2 i (by omega) (by omega)]
  rw[this]at hk;refine xx ?_;exact ZO (ZP hk)
abbrev depV (d:Zn):Value := .agg #[.int .i64 d.acct,.int .i64 d.mem,.int .u64 d.amt,.bool d.new]
def Yan (d:Zn):Bool:=wi d.acct 0 63&&wi d.mem 0 127 && !(d.new&&decide (d.mem≠0))&&decide (1≤d.amt)&&decide (d.amt≤4611686018427387904)
theorem Vr (hk:K (.slice none 0 0) L h):Zb prog 82 [.slice none 0 0] L h K:=by
 refine ZR func82 rfl (rs:=[_]) rfl rfl ZW (by kernel_rfl) rfl rfl ?_;refine xx ?_;exact ZP hk
theorem Yal (d:Zn)(ok:ZK d)(hk:∀a n c,K (.tuple #[.slice a n c,.int .i64 (if Yan d then 0 else 2)]) L h):Zb prog 174 [.slice none 0 0,depV d] L h K:=by
 have ua:=ok.a;refine ZR func174 rfl (rs:=[_,_]) rfl rfl ZW (by kernel_rfl) rfl rfl ?_;refine xx ?_;refine Z0 fun b1 nb1 zb1=>?_;(try simp only[ZU]at nb1);refine xx ?_;refine Zin _ _ _ ?_
 cases q1:wi d.acct 0 63 with
 | false =>
  simp only[Yan,q1,Bool.false_and,Bool.false_eq_true,if_false]at hk;refine xx ?_;exact ZO (ZP (hk none 0 0))
 | true =>
 refine xx ?_;refine Zin _ _ _ ?_
 cases q2:wi d.mem 0 127 with
 | false =>
  simp only[Yan,q2,Bool.and_false,Bool.false_and,Bool.false_eq_true,if_false]at hk;refine xx ?_;exact ZO (ZP (hk none 0 0))
 | true =>
 have fin1:(d.new&&decide (d.mem≠0))=true→Yan d=false:=fun e=>by simp only[Yan,e,Bool.not_true,Bool.and_false,Bool.false_and]
 have rest:(d.new&&decide (d.mem≠0))=false→Yan d=(decide (1≤d.amt)&&decide (d.amt≤4611686018427387904)):=fun e=>by simp only[Yan,e,q1,q2,Bool.not_false,Bool.true_and]
 cases q3:d.new with
 | true =>
  have q3':=q3;by_cases q4:d.mem=0
  ·rw[rest (by simp [q4])]at hk;by_cases q5:1≤d.amt
   ·by_cases q6:d.amt≤4611686018427387904
    ·rw[decide_eq_true q5,decide_eq_true q6]at hk;refine xx ?_;refine Ym (.tk 0 (.tkl 2 (.o1 1 (.o1 3 (.o1 4 (.tk 5 (.tk 6 (.fin))) (.nil)) (.nil)) (.o1 3 (.o1 1 (.o1 4 (.tk 5 (.tk 6 (.fin))) (.nil)) (.nil)) (.nil))))) (by kernel_rfl) (by kernel_rfl) _ (Za.refl _ _) ?_;refine xx ?_;refine Yf ?_ ?_
     ·refine xx ?_;refine Vr ?_;refine xkp (Za.refl _ _) ?_;refine xx ?_;refine Z0 fun b2 nb2 zb2=>?_;(try simp only[ZU]at nb2);refine xkp (Za.tail _ _ _) ?_;refine xx ?_;refine Z2 (t:=28) (e:=153) (sz:=4) (bytes:=32) (by kernel_rfl) Zcn rfl rfl rfl rfl (by decide) [_] _ none 0 [] rfl rfl (Src.own (b:=b2) List.mem_cons_self) (m:=1) (news:=[.int .i64 d.acct,.int .i64 d.mem,.int .u64 d.amt,.bool true]) rfl (by intro u hu;simp only[List.mem_cons,List.not_mem_nil,or_false]at hu;rcases hu with rfl|rfl|rfl|rfl<;>rfl) (by decide) (by decide) ?_;intro o' j1 j2 j3;have ho:=Z8 j1;obtain⟨a',c',e',_⟩:=ho;rw[e'];refine xx ?_;refine xkp (Za.trans (Za.tail _ _ _) (Za.oent _ _ _ _ _ _)) ?_;refine xx ?_;exact ZO (Wr (ZO (ZP (hk _ _ _))))
     ·refine xx ?_;refine Z0 fun b2 nb2 zb2=>?_;(try simp only[ZU]at nb2);refine xkp (Za.tail _ _ _) ?_;refine xx ?_;refine Vr ?_;refine xkp (Za.tail _ _ _) ?_;refine xx ?_;refine Z2 (t:=28) (e:=153) (sz:=4) (bytes:=32) (by kernel_rfl) Zcn rfl rfl rfl rfl (by decide) [_] _ none 0 [] rfl rfl (Src.own (b:=b2) List.mem_cons_self) (m:=1) (news:=[.int .i64 d.acct,.int .i64 d.mem,.int .u64 d.amt,.bool true]) rfl (by intro u hu;simp only[List.mem_cons,List.not_mem_nil,or_false]at hu;rcases hu with rfl|rfl|rfl|rfl<;>rfl) (by decide) (by decide) ?_;intro o' j1 j2 j3;have ho:=Z8 j1;obtain⟨a',c',e',_⟩:=ho;rw[e'];refine xx ?_;refine xkp (Za.trans (Za.tail _ _ _) (Za.oent _ _ _ _ _ _)) ?_;refine xx ?_;exact ZO (Wr (ZO (ZP (hk _ _ _))))
    ·simp only[decide_eq_false q6,Bool.and_false,Bool.false_eq_true,if_false]at hk;refine xx ?_;exact ZO (ZP (hk none 0 0))
   ·simp only[decide_eq_false q5,Bool.false_and,Bool.false_eq_true,if_false]at hk;refine xx ?_;exact ZO (ZP (hk none 0 0))
  ·rw[fin1 (by simp [q3,q4])]at hk;refine xx ?_;exact ZO (ZP (hk none 0 0))
 | false =>
  rw[rest (by simp [q3])]at hk;by_cases q5:1≤d.amt
  ·by_cases q6:d.amt≤4611686018427387904
   ·rw[decide_eq_true q5,decide_eq_true q6]at hk;refine xx ?_;refine Ym (.tk 0 (.tkl 2 (.o1 1 (.o1 3 (.o1 4 (.tk 5 (.tk 6 (.fin))) (.nil)) (.nil)) (.o1 3 (.o1 1 (.o1 4 (.tk 5 (.tk 6 (.fin))) (.nil)) (.nil)) (.nil))))) (by kernel_rfl) (by kernel_rfl) _ (Za.refl _ _) ?_;refine xx ?_;refine Yf ?_ ?_
    ·refine xx ?_;refine Vr ?_;refine xkp (Za.refl _ _) ?_;refine xx ?_;refine Z0 fun b2 nb2 zb2=>?_;(try simp only[ZU]at nb2);refine xkp (Za.tail _ _ _) ?_;refine xx ?_;refine Z2 (t:=28) (e:=153) (sz:=4) (bytes:=32) (by kernel_rfl) Zcn rfl rfl rfl rfl (by decide) [_] _ none 0 [] rfl rfl (Src.own (b:=b2) List.mem_cons_self) (m:=1) (news:=[.int .i64 d.acct,.int .i64 d.mem,.int .u64 d.amt,.bool false]) rfl (by intro u hu;simp only[List.mem_cons,List.not_mem_nil,or_false]at hu;rcases hu with rfl|rfl|rfl|rfl<;>rfl) (by decide) (by decide) ?_;intro o' j1 j2 j3;have ho:=Z8 j1;obtain⟨a',c',e',_⟩:=ho;rw[e'];refine xx ?_;refine xkp (Za.trans (Za.tail _ _ _) (Za.oent _ _ _ _ _ _)) ?_;refine xx ?_;exact ZO (Wr (ZO (ZP (hk _ _ _))))
    ·refine xx ?_;refine Z0 fun b2 nb2 zb2=>?_;(try simp only[ZU]at nb2);refine xkp (Za.tail _ _ _) ?_;refine xx ?_;refine Vr ?_;refine xkp (Za.tail _ _ _) ?_;refine xx ?_;refine Z2 (t:=28) (e:=153) (sz:=4) (bytes:=32) (by kernel_rfl) Zcn rfl rfl rfl rfl (by decide) [_] _ none 0 [] rfl rfl (Src.own (b:=b2) List.mem_cons_self) (m:=1) (news:=[.int .i64 d.acct,.int .i64 d.mem,.int .u64 d.amt,.bool false]) rfl (by intro u hu;simp only[List.mem_cons,List.not_mem_nil,or_false]at hu;rcases hu with rfl|rfl|rfl|rfl<;>rfl) (by decide) (by decide) ?_;intro o' j1 j2 j3;have ho:=Z8 j1;obtain⟨a',c',e',_⟩:=ho;rw[e'];refine xx ?_;refine xkp (Za.trans (Za.tail _ _ _) (Za.oent _ _ _ _ _ _)) ?_;refine xx ?_;exact ZO (Wr (ZO (ZP (hk _ _ _))))
   ·simp only[decide_eq_false q6,Bool.and_false,Bool.false_eq_true,if_false]at hk;refine xx ?_;exact ZO (ZP (hk none 0 0))
  ·simp only[decide_eq_false q5,Bool.false_and,Bool.false_eq_true,if_false]at hk;refine xx ?_;exact ZO (ZP (hk none 0 0))
def Zaw (s:Zf)(d:Zn):Bool:=Yan d&&VI s d.acct&&(d.new||wi d.mem 0 ((s.members.length:Int)-1))
def J1 (s:Zf)(d:Zg):Bool:=VI s d.acct&&wi d.at' 0 2147483647&&decide (1≤d.amt)&&decide (d.amt≤4611686018427387904)
def Zwn (l:List Zg)(k:Nat):Bool:=(List.range k).any fun j=>decide ((gr ZZ l k).acct=(gr ZZ l j).acct)&&decide ((gr ZZ l k).at'=(gr ZZ l j).at')
def Zqp (l:List Zg)(k:Nat):Bool:=decide (k=0)||decide ((gr ZZ l (k-1)).at'≤(gr ZZ l k).at')
def Zhy (s:Zf)(k:Nat):Bool:=J1 s (gr ZZ s.dues k) && !Zwn s.dues k&&Zqp s.dues k
def Zgu (s:Zf):Bool:=(List.range s.dues.length).all (Zhy s)
def Ju (s:Zf):Bool:=decide (s.pool.length≤256)&&s.pool.all (Zaw s)&&Zgu s
theorem Zqs:prog.underlying 235=some (.map 156 4):=by kernel_rfl
theorem Zsl:Yyl prog 156 [.i64,.i64,.u64]:=⟨by kernel_rfl,by kernel_rfl,by kernel_rfl⟩
theorem Zzn (W:World):(zeroValue 4:Sem Value).run prog W = .ok (.bool false) W:=by kernel_rfl
def Zqd (d:Zg):List Int:=[d.acct,d.at',0]
def esD (l:List Zg)(k:Nat):List (List Int×Value):=(l.take k).map fun d=>(Zqd d,.bool true)
theorem Zmb {l:List Zg}{k:Nat}(hk:k<l.length):esD l (k+1)=esD l k++[(Zqd (gr ZZ l k),.bool true)]:=by
 rw[Yc hk,esD,esD,List.take_succ_eq_append_getElem hk,List.map_append];rfl
theorem Zkj (l:List Zg)(k:Nat):∀e∈esD l k,e.1.length=3:=fun e he=>by
 obtain⟨d,_,rfl⟩:=List.mem_map.1 he;rfl
theorem Zuy {es:List (List Int×Value)}{n:List Int}(h:∀e∈es,e.1≠n):Zlm es n=none:=by
 induction es with
 | nil=>rfl
 | cons e es ih=>rw[Zlm,if_neg (fun c=>h e (by simp) c.symm)];exact ih fun x hx=>h x (by simp [hx])
theorem Zut {es:List (List Int×Value)}{n:List Int}{v:Value}(h:∃e∈es,e.1=n)(hv:∀e∈es,e.2=v):Zlm es n=some v:=by
 induction es with
 | nil=>obtain⟨e,he,_⟩:=h;cases he
 | cons e es ih =>
  rw[Zlm];split
  ·rw[hv e (by simp)]
  ·rename_i c;refine ih ?_ fun x hx=>hv x (by simp [hx]);obtain⟨x,hx,hxe⟩:=h;rcases List.mem_cons.1 hx with rfl|hx
   ·exact absurd hxe.symm c
   ·exact⟨x,hx,hxe⟩
theorem keyD_eq {a b:Zg}:Zqd a=Zqd b↔a.acct=b.acct∧a.at'=b.at':=by simp [Zqd]
theorem Zdj {l:List Zg}{k:Nat}(hk:k<l.length):(Zwn l k=false→Zlm (esD l k) (Zqd (gr ZZ l k))=none)∧(Zwn l k=true→Zlm (esD l k) (Zqd (gr ZZ l k))=some (.bool true)):=by
 constructor
 ·intro hm;rw[Zwn,List.any_eq_false]at hm;refine Zuy fun e he hc=>?_;obtain⟨d,hd,rfl⟩:=List.mem_map.1 he;obtain⟨j,hj,rfl⟩:=List.mem_iff_getElem.1 hd;simp only[List.length_take]at hj;have:=hm j (List.mem_range.2 (by omega));rw[List.getElem_take]at hc;have hc':=keyD_eq.1 hc;rw[Yc (l:=l) (i:=j) (by omega)]at this;simp [hc'.1,hc'.2]at this
 ·intro hm;rw[Zwn,List.any_eq_true]at hm;obtain⟨j,hj,hq⟩:=hm;have hj':=List.mem_range.1 hj;simp only[Bool.and_eq_true,decide_eq_true_eq]at hq;refine Zut ⟨(Zqd (gr ZZ l j),.bool true),?_,keyD_eq.2 ⟨hq.1.symm,hq.2.symm⟩⟩ fun e he=>?_
  ·refine List.mem_map.2 ⟨gr ZZ l j,?_,rfl⟩;rw[Yc (by omega)];exact List.mem_iff_getElem.2 ⟨j,by simp;omega,by simp⟩
  ·obtain⟨d,_,rfl⟩:=List.mem_map.1 he;rfl
theorem Yfc {l:List Zg}{k:Nat}(hk:k<l.length):(Zlm (esD l k) (Zqd (gr ZZ l k))).getD (.bool false) = .bool (Zwn l k):=by
 cases hm:Zwn l k with
 | false=>rw[(Zdj hk).1 hm];rfl
 | true=>rw[(Zdj hk).2 hm];rfl
theorem VR {s:Zf}{k:Nat}(hk:k<s.dues.length)(hq:Zhy s k=false):Zgu s=false:=by
 rw[Zgu,List.all_eq_false];exact⟨k,List.mem_range.2 hk,by simp [hq]⟩
theorem Zsa {s:Zf}(v:SV)(hs:Zp h v s)(few:ZD s)(hk:K (.bool (Ju s)) L h):Zb prog 63 [stV s v] L h K:=by
 obtain⟨pa,pc,ma,mc,ea,ec,xa,xc,oa,oc,da,dc,ta,tc,ka,kc,ra,rc,rfl⟩:=hs.slices;have ho:Zj Zbb 4 h (.slice oa s.pool.length oc) s.pool:=hs.o;have hd:Zj Yx 3 h (.slice da s.dues.length dc) s.dues:=hs.d;have fm:=few.m;have fo:=few.o;have fd:=few.d;unfold Ju at hk;refine ZR func63 rfl (rs:=[_]) rfl rfl ZW (by kernel_rfl) rfl rfl ?_;refine xx ?_;refine Z0 fun b1 nb1 zb1=>?_;(try simp only[ZU]at nb1);refine xx ?_;by_cases c0:s.pool.length≤256
 ·rw[decide_eq_true c0,Bool.true_and]at hk;refine xx ?_;refine YJ (0:Nat) (fun k=>k≤s.pool.length∧∀j,j<k→Zaw s (gr YN s.pool j)=true) (fun k=>[(20,.int .i64 k),(19,.int .i64 s.pool.length),(18,.slice oa s.pool.length oc),(1,.pointer (some ⟨b1,0,none⟩))]) (fun _=>⟨b1,127,stC s ⟨.slice pa s.purses.length pc,.slice ma s.members.length mc,.slice ea s.entry.length ec,.slice xa s.exit.length xc,.slice oa s.pool.length oc,.slice da s.dues.length dc,.slice ta s.motions.length tc,.slice ka s.marks.length kc,.slice ra s.ring.length rc⟩,41⟩::L) (fun _=>h) (fun k=>s.pool.length-k) ?_ ?_ ?_ ?_
  ·exact⟨Nat.zero_le _,fun j hj=>by omega⟩
  ·simp [Ent,List.lookup,Wv]
  ·exact Za.refl _ _
  rintro k ⟨k1,k2⟩;by_cases c1:k<s.pool.length
  ·have hxo:=hs.oo (gr YN s.pool k) (by rw[Yc c1];exact List.getElem_mem c1);simp -dsimp -implicitDefEqProofs (disch:=first|with_reducible assumption|omega) [go_sem,↓Zci YN (by decide) ho,Zbb];refine Z0 fun b2 nb2 zb2=>?_;(try simp only[ZU]at nb2);simp -dsimp -implicitDefEqProofs (disch:=first|with_reducible assumption|omega) [go_sem,Zbb];refine Yal (gr YN s.pool k) hxo fun a' n' c'=>?_
   cases q1:Yan (gr YN s.pool k) with
   | false =>
    rw[YY YN _ _ c1 (by simp only[Zaw,q1,Bool.false_and])]at hk;refine xx ?_;exact ZO (ZO (ZP (by simpa using hk)))
   | true =>
   refine xx ?_;refine Vn _ hs few _ ?_
   cases q2:VI s (gr YN s.pool k).acct with
   | false =>
    rw[YY YN _ _ c1 (by simp only[Zaw,q2,Bool.and_false,Bool.false_and])]at hk;refine xx ?_;exact ZO (ZO (ZP (by simpa using hk)))
   | true =>
   have next:Zaw s (gr YN s.pool k)=true→∀j,j<k+1→Zaw s (gr YN s.pool j)=true:=fun hq j hj=>by
    by_cases e:j=k
    ·subst e;exact hq
    ·exact k2 j (by omega)
   cases q3:(gr YN s.pool k).new with
   | true =>
    refine xx ?_;exact⟨k+1,⟨by omega,next (by simp only[Zaw,q1,q2,q3,Bool.true_and,Bool.true_or])⟩,by omega,by simp [Ent,List.lookup],Za.tail _ _ _⟩
   | false =>
    refine xx ?_;refine Um _ _ _ ?_
    cases q4:wi (gr YN s.pool k).mem 0 ((s.members.length:Int)-1) with
    | false =>
     rw[YY YN _ _ c1 (by simp only[Zaw,q3,q4,Bool.or_self,Bool.and_false])]at hk;refine xx ?_;exact ZO (ZO (ZP (by simpa using hk)))
    | true =>
     refine xx ?_;exact⟨k+1,⟨by omega,next (by simp only[Zaw,q1,q2,q3,q4,Bool.true_and,Bool.false_or])⟩,by omega,by simp [Ent,List.lookup],Za.tail _ _ _⟩
  ·have hkl:k=s.pool.length:=by omega
   subst hkl;rw[Zbv YN _ _ k2,Bool.true_and]at hk;refine xx ?_;refine Zqx fun bm n_bm h_bm=>?_;(try simp only[ZU]at n_bm);refine xx ?_;refine YJ (0:Nat) (fun k=>k≤s.dues.length∧∀j,j<k→Zhy s j=true) (fun k=>[(60,.int .i64 k),(59,.int .i64 s.dues.length),(58,.slice da s.dues.length dc),(7,.map (some bm)),(1,.pointer (some ⟨b1,0,none⟩))]) (fun k=>⟨bm,4294967295,Zqm [.i64,.i64,.u64] (esD s.dues k),0⟩::⟨b1,127,stC s ⟨.slice pa s.purses.length pc,.slice ma s.members.length mc,.slice ea s.entry.length ec,.slice xa s.exit.length xc,.slice oa s.pool.length oc,.slice da s.dues.length dc,.slice ta s.motions.length tc,.slice ka s.marks.length kc,.slice ra s.ring.length rc⟩,41⟩::L) (fun _=>h) (fun k=>s.dues.length-k) ?_ ?_ ?_ ?_
   ·exact⟨Nat.zero_le _,fun j hj=>by omega⟩
   ·simp [Ent,List.lookup,Wv]
   ·exact Za.refl _ _
   rintro k ⟨k1,k2⟩;by_cases c1:k<s.dues.length
   ·have hxo:=hs.dd (gr ZZ s.dues k) (by rw[Yc c1];exact List.getElem_mem c1);have ua:=hxo.a;simp -dsimp -implicitDefEqProofs (disch:=first|with_reducible assumption|omega) [go_sem,↓Zci ZZ (by decide) hd,Yx];refine Z0 fun b9 nb9 zb9=>?_;(try simp only[ZU]at nb9);simp -dsimp -implicitDefEqProofs (disch:=first|with_reducible assumption|omega) [go_sem,Yx];refine Z0 fun b10 nb10 zb10=>?_;(try simp only[ZU]at nb10);simp -dsimp -implicitDefEqProofs (disch:=first|with_reducible assumption|omega) [go_sem,Yx];refine JY (by kernel_rfl) rfl ?_;refine xx ?_;have key:Zhy s k=true→∀j,j<k+1→Zhy s j=true:=fun hq j hj=>by
     by_cases e:j=k
     ·subst e;exact hq
     ·exact k2 j (by omega)
    refine UG _ (Vn _ hs few _ ⟨rfl,rfl,rfl⟩) ?_
    cases q1:VI s (gr ZZ s.dues k).acct with
    | false =>
     rw[VR c1 (by simp only[Zhy,J1,q1,Bool.and_false,Bool.false_and,Bool.not_true])]at hk;refine xx ?_;exact ZO (ZO (ZO (ZO (ZP hk))))
    | true =>
    refine xx ?_;refine UG _ (Um _ _ _ ⟨rfl,rfl,rfl⟩) ?_
    cases q2:wi (gr ZZ s.dues k).at' 0 2147483647 with
    | false =>
     rw[VR c1 (by simp only[Zhy,J1,q2,Bool.and_false,Bool.false_and,Bool.not_true])]at hk;refine xx ?_;exact ZO (ZO (ZO (ZO (ZP hk))))
    | true =>
    by_cases q3:1≤(gr ZZ s.dues k).amt
    ·by_cases q4:(gr ZZ s.dues k).amt≤4611686018427387904
     ·refine xx ?_;refine Zru (n:=Zqd (gr ZZ s.dues k)) Zqs Zsl Zzn rfl (esD s.dues k) (Zkj _ _) (List.mem_cons_of_mem _ (List.mem_cons_of_mem _ List.mem_cons_self)) ?_;rw[Yfc c1];simp only[Bool.false_eq_true,if_false]
      cases q5:Zwn s.dues k with
      | true =>
       rw[VR c1 (by simp only[Zhy,J1,q5,Bool.and_false,Bool.false_and,Bool.not_true])]at hk;refine xx ?_;exact ZO (ZO (ZO (ZO (ZP hk))))
      | false =>
      by_cases c2:k=0
      ·have q6:Zqp s.dues k=true:=by simp [Zqp,c2]
       have c3:¬(0<(k:Int)):=by omega
       refine xx ?_;refine Zet (n:=Zqd (gr ZZ s.dues k)) Zqs Zsl rfl [_,_] _ (esD s.dues k) (Zkj _ _) ((Zdj c1).1 q5) ?_;rw[← Zmb c1];refine xx ?_;exact⟨k+1,⟨by omega,key (by simp only[Zhy,J1,q1,q2,q5,q6,decide_eq_true q3,decide_eq_true q4,Bool.and_self,Bool.not_false])⟩,by omega,by simp [Ent,List.lookup],Za.trans (Za.tail _ _ _) (Za.tail _ _ _)⟩
      ·have e1:((k:Int)-1).toNat=k-1:=by omega
       by_cases c4:(gr ZZ s.dues (k-1)).at'≤(gr ZZ s.dues k).at'
       ·have q6:Zqp s.dues k=true:=by simp [Zqp,c4]
        simp -dsimp -implicitDefEqProofs (disch:=first|with_reducible assumption|omega) [go_sem,↓Zci ZZ (by decide) hd,e1];refine(Zj.fld ZZ hd (j:=k-1) (o:=1) (by omega) (u:=.int .i64 (gr ZZ s.dues (k-1)).at') rfl _ _ _).mpr ?_;refine xx ?_;refine Zet (n:=Zqd (gr ZZ s.dues k)) Zqs Zsl rfl [_,_] _ (esD s.dues k) (Zkj _ _) ((Zdj c1).1 q5) ?_;rw[← Zmb c1];refine xx ?_;exact⟨k+1,⟨by omega,key (by simp only[Zhy,J1,q1,q2,q5,q6,decide_eq_true q3,decide_eq_true q4,Bool.and_self,Bool.not_false])⟩,by omega,by simp [Ent,List.lookup],Za.trans (Za.tail _ _ _) (Za.tail _ _ _)⟩
       ·have q6:Zqp s.dues k=false:=by simp [Zqp,c2,c4]
        simp -dsimp -implicitDefEqProofs (disch:=first|with_reducible assumption|omega) [go_sem,↓Zci ZZ (by decide) hd,e1];refine(Zj.fld ZZ hd (j:=k-1) (o:=1) (by omega) (u:=.int .i64 (gr ZZ s.dues (k-1)).at') rfl _ _ _).mpr ?_;rw[VR c1 (by simp only[Zhy,J1,q6,Bool.and_false,Bool.false_and,Bool.not_true])]at hk;refine xx ?_;exact ZO (ZO (ZO (ZO (ZP hk))))
     ·have q4':=decide_eq_false q4;rw[VR c1 (by simp only[Zhy,J1,q4',Bool.and_false,Bool.false_and,Bool.not_true])]at hk;refine xx ?_;exact ZO (ZO (ZO (ZO (ZP hk))))
    ·have q3':=decide_eq_false q3;rw[VR c1 (by simp only[Zhy,J1,q3',Bool.and_false,Bool.false_and,Bool.not_true])]at hk;refine xx ?_;exact ZO (ZO (ZO (ZO (ZP hk))))
   ·have hkl:k=s.dues.length:=by omega
    subst hkl;have hq:Zgu s=true:=by
     rw[Zgu,List.all_eq_true];exact fun j hj=>k2 j (List.mem_range.1 hj)
    rw[hq]at hk;refine xx ?_;exact ZO (ZO (ZP hk))
 ·rw[decide_eq_false c0]at hk;refine xx ?_;exact ZO (ZP (by simpa using hk))
def Wi (s:Zf):Bool:=Yb s.par&&wi s.ep 0 1073741824&&wi s.calm 0 1073741824&&Uq s&&WK s&&Ju s&&Vv s&&JJ s&&WR s
theorem GH {s:Zf}(v:SV)(hs:Zp h v s)(few:ZD s)(hk:K (.bool (Wi s)) L h):Zb prog 15 [stV s v] L h K:=by
 obtain⟨pa,pc,ma,mc,ea,ec,xa,xc,oa,oc,da,dc,ta,tc,ka,kc,ra,rc,rfl⟩:=hs.slices;refine ZR func15 rfl (rs:=[_]) rfl rfl ZW (by kernel_rfl) rfl rfl ?_;refine xx ?_;refine Z0 fun b1 nb1 zb1=>?_;(try simp only[ZU]at nb1);refine xx ?_;refine Z0 fun b2 nb2 zb2=>?_;(try simp only[ZU]at nb2);refine xx ?_;refine WN s.par hs.ok.p ?_
 cases q1:Yb s.par with
 | false =>
  simp only[Wi,q1,Bool.false_and]at hk;refine xx ?_;exact ZO (ZO (ZP hk))
 | true =>
 refine xx ?_;refine Um _ _ _ ?_
 cases q2:wi s.ep 0 1073741824 with
 | false =>
  simp only[Wi,q2,Bool.and_false,Bool.false_and]at hk;refine xx ?_;exact ZO (ZO (ZP hk))
 | true =>
 refine xx ?_;refine Um _ _ _ ?_
 cases q3:wi s.calm 0 1073741824 with
 | false =>
  simp only[Wi,q3,Bool.and_false,Bool.false_and]at hk;refine xx ?_;exact ZO (ZO (ZP hk))
 | true =>
 refine xx ?_;refine Zop (s:=s) ⟨.slice pa s.purses.length pc,.slice ma s.members.length mc,.slice ea s.entry.length ec,.slice xa s.exit.length xc,.slice oa s.pool.length oc,.slice da s.dues.length dc,.slice ta s.motions.length tc,.slice ka s.marks.length kc,.slice ra s.ring.length rc⟩ hs few ?_
 cases q4:Uq s with
 | false =>
  simp only[Wi,q4,Bool.and_false,Bool.false_and]at hk;refine xx ?_;exact ZO (ZO (ZP hk))
 | true =>
 refine xx ?_;refine Zje (s:=s) ⟨.slice pa s.purses.length pc,.slice ma s.members.length mc,.slice ea s.entry.length ec,.slice xa s.exit.length xc,.slice oa s.pool.length oc,.slice da s.dues.length dc,.slice ta s.motions.length tc,.slice ka s.marks.length kc,.slice ra s.ring.length rc⟩ hs few q1 ?_
 cases q5:WK s with
 | false =>
  simp only[Wi,q5,Bool.and_false,Bool.false_and]at hk;refine xx ?_;exact ZO (ZO (ZP hk))
 | true =>
 refine xx ?_;refine Zsa (s:=s) ⟨.slice pa s.purses.length pc,.slice ma s.members.length mc,.slice ea s.entry.length ec,.slice xa s.exit.length xc,.slice oa s.pool.length oc,.slice da s.dues.length dc,.slice ta s.motions.length tc,.slice ka s.marks.length kc,.slice ra s.ring.length rc⟩ hs few ?_
 cases q6:Ju s with
 | false =>
  simp only[Wi,q6,Bool.and_false,Bool.false_and]at hk;refine xx ?_;exact ZO (ZO (ZP hk))
 | true =>
 refine xx ?_;refine Zjt (s:=s) ⟨.slice pa s.purses.length pc,.slice ma s.members.length mc,.slice ea s.entry.length ec,.slice xa s.exit.length xc,.slice oa s.pool.length oc,.slice da s.dues.length dc,.slice ta s.motions.length tc,.slice ka s.marks.length kc,.slice ra s.ring.length rc⟩ hs few ?_
 cases q7:Vv s with
 | false =>
  simp only[Wi,q7,Bool.and_false,Bool.false_and]at hk;refine xx ?_;exact ZO (ZO (ZP hk))
 | true =>
 refine xx ?_;refine Zvt (s:=s) ⟨.slice pa s.purses.length pc,.slice ma s.members.length mc,.slice ea s.entry.length ec,.slice xa s.exit.length xc,.slice oa s.pool.length oc,.slice da s.dues.length dc,.slice ta s.motions.length tc,.slice ka s.marks.length kc,.slice ra s.ring.length rc⟩ hs few ?_
 cases q8:JJ s with
 | false =>
  simp only[Wi,q8,Bool.and_false,Bool.false_and]at hk;refine xx ?_;exact ZO (ZO (ZP hk))
 | true =>
 simp only[Wi,q1,q2,q3,q4,q5,q6,q7,q8,Bool.and_self,Bool.true_and]at hk;refine xx ?_;refine Ztr (s:=s) ⟨.slice pa s.purses.length pc,.slice ma s.members.length mc,.slice ea s.entry.length ec,.slice xa s.exit.length xc,.slice oa s.pool.length oc,.slice da s.dues.length dc,.slice ta s.motions.length tc,.slice ka s.marks.length kc,.slice ra s.ring.length rc⟩ hs few ?_;refine xx ?_;exact ZO (ZO (ZP hk))
theorem UW (m:Zc)(hk:K (.bool (decide (m.status=2∨m.status=3))) L h):Zb prog 47 [Zxf m] L h K:=by
 refine ZR func47 rfl (rs:=[_]) rfl rfl ZW (by kernel_rfl) rfl rfl ?_;refine xx ?_;refine Z0 fun b1 nb1 zb1=>?_;(try simp only[ZU]at nb1);refine xx ?_;by_cases c:m.status=2
 ·refine xx ?_;exact ZO (ZP (by simpa [c] using hk))
 ·refine xx ?_;exact ZO (ZP (by simpa [c] using hk))
theorem Zox {h:PH}{v:Value}{n:Nat}(sl:Sl h v n 1 (List.replicate n (.int .u8 0))):Ints h .u8 v (List.replicate n 0) :=
 ⟨by simpa [List.map_replicate] using sl,fun z hz=>by rw[List.eq_of_mem_replicate hz];decide⟩
open Go.RowKit
section
variable {P:Program} {L:Own} {h:PH} {E:Env} {K:PK} {l:Nat} {rec:LoopState→Option Code→Obj}
@[go_sem ↓] theorem Zye:GZ l rec K .normal E L h=Ybe K true l (rec .ready none) L h:=rfl
@[go_sem ↓] theorem Yjx:GZ l rec K .ret E L h=Ybe K false l (rec .done (some .ret)) L h:=rfl
@[go_sem ↓] theorem Yhy (id:Nat):GZ l rec K (.exit id) E L h=Ybe K false l (rec .done (some (.exit id))) L h:=rfl
@[go_sem ↓] theorem Yiv (p:Tmp)(ps:List Tmp)(v:Value)(vs:List Value):Je (p::ps) (v::vs) E=Je ps vs ((p,v)::E):=rfl
@[go_sem ↓] theorem Ynv (vs:List Value):Je [] vs E=E:=by cases vs<;>rfl
theorem VJ {v:Bool}{o:Obj}{L':Own}{h':PH}(hd:Za L h L' h')(hk:K (.bool v) (Zbk l o::L') h'):Ybe K v l o L h:=⟨L',h',hd,hk⟩
end
theorem Ysf {P:Program}(hm:P.follows .mixedOrders=true){l D fn:Nat}{tmps:Array Value}{ps:List Tmp}{assign body:Code}{E:Env}{args:List Value}{L:Own}{h:PH}{K:PK}
  (he:∀i v,E.lookup i=some v→tmps.getD i undef=v) (hp:(ps.toArray.all fun p=>decide (p<tmps.size))=true) (ha:wfC tmps.size assign=true) (hb:wfC tmps.size body=true)
  (na:VF assign=true) (nb:VF body=true) (hl:ps.length=args.length)
  (hx:xC P assign (thn (xC P body (GZ l (V8 fn tmps ps.toArray assign body D) K)) fun _ _ _ _=>False) (Je ps args E) L h) :
  YSpec P l args (Zbk l (V8 fn tmps ps.toArray assign body D .ready none)::L) h K:=by
 refine Zjx hm he hp ha hb na nb (by simpa using hl) ?_;have key:∀Q1 Q2:UZ,Q1=Q2→xC P assign Q2 (Je ps args E) L h→xC P assign Q1 (Je ps args E) L h:=fun _ _ e hx=>e ▸ hx;refine key _ _ ?_ hx
 funext e E1 L1 h1
 cases e<;>rfl
theorem YSpec.apn {P:Program}{l:Nat}{args:List Value}{L:Own}{h:PH}{K:PK}(hs:YSpec P l args L h fun v L' h'=>Ap L' h'→Nd L'→K v L' h'):YSpec P l args L h K :=
 ⟨trivial,fun W hg=>by
  obtain⟨fn,tmps,assign,body,hy,hR⟩:=hs.2 W hg
  exact⟨fn,tmps,assign,body,hy,hR.mono fun _ _ ⟨r,L',h',e,k,st⟩=>⟨r,L',h',e,k (Ap.of st.1.apart) (Nd.of st.1.nodup),st⟩⟩⟩
theorem Ap.app {h:PH}:∀ {A B:Own},Ap (A++B) h→Ap A h∧Ap B h
 | [],_,hb=>⟨trivial,hb⟩
 | _::_,_,ha=>⟨⟨ha.1,(Ap.app ha.2).1⟩,(Ap.app ha.2).2⟩
theorem Zhj {A B:Own}:(B++A).Perm (A++B):=List.perm_append_comm
@[go_sem ↓] theorem Yke {Q:UZ}{E:Env}{L:Own}{h:PH}:Zvo Q E L h none=Q .normal E L h:=rfl
@[go_sem ↓] theorem Ylc {Q:UZ}{E:Env}{L:Own}{h:PH}:Zvo Q E L h (some .ret)=Q .ret E L h:=rfl
@[go_sem ↓] theorem Yjv {Q:UZ}{E:Env}{L:Own}{h:PH}(id:Nat):Zvo Q E L h (some (.exit id))=Q (.exit id) E L h:=rfl
theorem Yco {P:Program}{gf:Nat}{lb:Array Value}{ps:Array Tmp}{assign body:Code}{Q:UZ}{E:Env}{L:Own}{h:PH}(hc:V4 P gf)
  (hs:∀(l D fn:Nat) (tmps:Array Value),(∀i v,E.lookup i=some v→tmps.getD i undef=v)→(ps.all fun p=>decide (p<tmps.size))=true→wfC tmps.size assign=true→wfC tmps.size body=true→ZU l L→h l=noC →
   Zb P gf (.func (.yield l) #[] #[]::lb.toList) (Zbk l (V8 fn tmps ps assign body D .ready none)::L) h fun _ L' h' =>
    ∃st jump L1,L'=Zbk l (V8 fn tmps ps assign body D st jump)::L1∧st ≠ .busy∧Zvo Q E L1 h' jump):Zuz P (.func (.func gf) #[] lb) ps assign body Q E L h :=
 ⟨gf,lb,rfl,hc,hs⟩
theorem Zkv {e sz:Nat}(o:Option (Nat×Nat))(xs:List Value)(A B:Own):oent e sz o xs A++B=oent e sz o xs (A++B):=by
 cases o<;>rfl
theorem Zch {b:Nat}:∀ {A B:Own},ZU b (A++B)→ZU b A
 | [],_,_=>trivial
 | _::_,_,h=>⟨h.1,Zch h.2⟩
theorem Yaf {o:Option (Nat×Nat)}{A B:Own}{h:PH}(ha:apO o (A++B) h):apO o A h:=by
 cases o with
 | none=>trivial
 | some p=>exact⟨Zch ha.1,ha.2⟩
theorem Yt {b e sz:Nat}{o:Option (Nat×Nat)}{xs:List Value}{L:Own}(ha:ZU b (oent e sz o xs L)):ZU b L:=by
 cases o with
 | none=>exact ha
 | some p=>exact ha.2
theorem Gz {h:PH}{o:Option (Nat×Nat)}{xs:List Value}{b:Nat}(hb:apB o b)(hh:h b=noC):Jq h o xs b=noC:=by
 cases o with
 | none=>exact hh
 | some p =>
  have:p.1≠b:=hb
  funext i
  simp only[Jq,pub,if_neg (Ne.symm this),hh]
end Go.X
