/- Lemmas and contracts. Conditions: as each says. -/
import Derived.Test.YtllhopbilpdpkaaGreatQ14
import Derived.Test.YtllhopbilpdpkaaGreatQ15
set_option linter.unusedVariables false
set_option linter.unusedSimpArgs false
set_option maxHeartbeats 12800000
set_option maxRecDepth 20000
namespace Go.X
open Go.RowKit Go.Proofs Go.Bl Go.Proofs.Tryz
variable {L:Own} {h:PH} {K:PK}
theorem UK {α:Type}(z:α)(q:α→Bool)(l:List α)(hq:∀j,j<l.length→q (gr z l j)=true):l.all q=true:=by
 rw[List.all_eq_true];intro x hx;obtain⟨j,hj,rfl⟩:=List.mem_iff_getElem.1 hx;have:=hq j hj
 rwa [Z9 hj]at this
theorem YC {α:Type}(z:α)(q:α→Bool)(l:List α){k:Nat}(hk:k<l.length)(hq:q (gr z l k)=false):l.all q=false:=by
 rw[List.all_eq_false];rw[Z9 hk]at hq;exact⟨l[k],List.getElem_mem hk,by simp [hq]⟩
theorem Yhn (q:Int→Bool)(l:List Int)(hq:∀j,j<l.length→q (at0 l j)=true):l.all q=true:=UK 0 q l hq
theorem Zel (q:Int→Bool)(l:List Int){k:Nat}(hk:k<l.length)(hq:q (at0 l k)=false):l.all q=false:=YC 0 q l hk hq
theorem Zo.slices {v:SV}{s:Ze}(hs:Zo h v s):∃pa pc ma mc ea ec xa xc oa oc da dc ta tc ka kc ra rc,
  v=⟨.slice pa s.purses.length pc,.slice ma s.members.length mc,.slice ea s.entry.length ec,.slice xa s.exit.length xc,.slice oa s.pool.length oc,.slice da s.dues.length dc,.slice ta s.motions.length tc,.slice ka s.marks.length kc,.slice ra s.ring.length rc⟩:=by
 obtain⟨pa,pc,hp,_⟩:=hs.p.open;obtain⟨ma,mc,hm,_⟩:=hs.m.open;obtain⟨ea,ec,he,_⟩:=hs.e.open;obtain⟨xa,xc,hx,_⟩:=hs.x.open;obtain⟨oa,oc,ho,_⟩:=hs.o.open;obtain⟨da,dc,hd,_⟩:=hs.d.open;obtain⟨q,t1,t2,_⟩:=hs.t;obtain⟨ta,tc,ht,_⟩:=t1.open;obtain⟨ka,kc,hk,_⟩:=hs.k.open;obtain⟨r,r1,r2⟩:=hs.r;obtain⟨ra,rc,hr,_⟩:=r1.open;refine⟨pa,pc,ma,mc,ea,ec,xa,xc,oa,oc,da,dc,ta,tc,ka,kc,ra,rc,?_⟩;rw[← t2,← r2,List.length_map,WZ];obtain⟨vp,vm,ve,vx,vo,vd,vt,vk,vr⟩:=v;simp only at hp hm he hx ho hd ht hk hr;subst hp hm he hx ho hd ht hk hr
 rfl
theorem Je (n lo hi:Int)(hk:K (.bool (wi n lo hi)) L h):Zb prog 59 [.int .i64 n,.int .i64 lo,.int .i64 hi] L h K:=by
 unfold wi at hk;refine ZS func59 rfl (rs:=[_]) rfl rfl ZX (by kernel_rfl) rfl rfl ?_;refine xx ?_;by_cases c:lo≤n
 ·refine xx ?_;exact ZP (by simpa [c] using hk)
 ·refine xx ?_;exact ZP (by simpa [c] using hk)
theorem JF (n lo hi:Int)(hk:K (.bool (wi n lo hi)) L h):Zb prog 283 [.int .i64 n,.int .i64 lo,.int .i64 hi] L h K:=by
 unfold wi at hk;refine ZS func283 rfl (rs:=[_]) rfl rfl ZX (by kernel_rfl) rfl rfl ?_;refine xx ?_;by_cases c:lo≤n
 ·refine xx ?_;exact ZP (by simpa [c] using hk)
 ·refine xx ?_;exact ZP (by simpa [c] using hk)
theorem Znc (n lo hi:Int)(hk:K (.bool (wi n lo hi)) L h):Zb prog 282 [.int .i64 n,.int .i64 lo,.int .i64 hi] L h K:=by
 unfold wi at hk;refine ZS func282 rfl (rs:=[_]) rfl rfl ZX (by kernel_rfl) rfl rfl ?_;refine xx ?_;by_cases c:lo≤n
 ·refine xx ?_;exact ZP (by simpa [c] using hk)
 ·refine xx ?_;exact ZP (by simpa [c] using hk)
def Y1 (s:Ze)(i:Int):Bool:=wi i 0 ((s.purses.length:Int)-1)
theorem VQ {s:Ze}(v:SV)(hs:Zo h v s)(few:Zv s)(i:Int)(hk:K (.bool (Y1 s i)) L h):Zb prog 170 [stV s v,.int .i64 i] L h K:=by
 obtain⟨pa,pc,hp,_⟩:=hs.p.open;have fp:=few.p;unfold Y1 at hk;refine ZS func170 rfl (rs:=[_]) rfl rfl ZX (by kernel_rfl) rfl rfl ?_;refine xx ?_;refine Z0 fun b1 nb1 zb1=>?_;(try simp only[ZT]at nb1);simp -dsimp -implicitDefEqProofs (disch:=first|with_reducible assumption|omega) [go_sem,hp];refine Je _ _ _ ?_;refine xx ?_;exact ZO (ZP hk)
def V2 (s:Ze):Bool:=wi s.purses.length 1 64&&s.purses.all fun z=>decide (z≤4611686018427387904)
theorem Zto {s:Ze}(v:SV)(hs:Zo h v s)(few:Zv s)(hk:K (.bool (V2 s)) L h):Zb prog 60 [stV s v] L h K:=by
 have hw:=hs.p.word;obtain⟨pa,pc,hp,hc,hl,_,hcs⟩:=hs.p.open;have fp:=few.p;unfold V2 at hk;refine ZS func60 rfl (rs:=[_]) rfl rfl ZX (by kernel_rfl) rfl rfl ?_;refine xx ?_;refine Z0 fun b1 nb1 zb1=>?_;(try simp only[ZT]at nb1);simp -dsimp -implicitDefEqProofs (disch:=first|with_reducible assumption|omega) [go_sem,hp];refine Je _ _ _ ?_
 cases hq:wi s.purses.length 1 64 with
 | false =>
  rw[hq]at hk;refine xx ?_;exact ZO (ZP (by simpa using hk))
 | true =>
  rw[hq,Bool.true_and]at hk;simp -dsimp -implicitDefEqProofs (disch:=first|with_reducible assumption|omega) [go_sem,hp];refine Yu (0:Nat) (fun k=>k≤s.purses.length∧∀j,j<k→at0 s.purses j≤4611686018427387904) (fun k=>[(15,.int .i64 k),(14,.int .i64 s.purses.length),(13,.slice pa s.purses.length pc)]) (fun _=>L) (fun _=>h) (fun k=>s.purses.length-k) ?_ ?_ ?_ ?_
  ·exact⟨Nat.zero_le _,fun j hj=>by omega⟩
  ·simp [Ent,List.lookup,Y3,hp]
  ·exact Za.tail _ _ _
  rintro k ⟨k1,k2⟩;have hwk:=hw k;by_cases c1:k<s.purses.length
  ·by_cases c2:at0 s.purses k≤4611686018427387904
   ·simp -dsimp -implicitDefEqProofs (disch:=first|with_reducible assumption|omega) [go_sem,idx hcs];refine⟨k+1,⟨by omega,fun j hj=>?_⟩,by omega,by simp [Ent,List.lookup],Za.refl _ _⟩;by_cases e:j=k
    ·subst e;exact c2
    ·exact k2 j (by omega)
   ·rw[Zel _ _ c1 (decide_eq_false c2)]at hk;simp -dsimp -implicitDefEqProofs (disch:=first|with_reducible assumption|omega) [go_sem,idx hcs];exact ZP hk
  ·rw[Yhn _ _ (fun j hj=>decide_eq_true (k2 j (by omega)))]at hk;refine xx ?_;exact ZP hk
theorem Zii {zs:List Int}(v:Value)(x:Int)(hz:Ints h .i64 v zs)(hx : -9223372036854775808≤x∧x≤9223372036854775807)(hk:∀i:Int,-1≤i→i≤9223372036854775807→(0≤i↔x∈zs)→K (.int .i64 i) L h):Zb prog 307 [v,.int .i64 x] L h K:=by
 have hn:=hz.num;obtain⟨a,c,rfl,hcap,hl,_,hcs⟩:=hz.open;refine ZS func307 rfl (rs:=[_]) rfl rfl ZX (by kernel_rfl) rfl rfl ?_;refine xx ?_;refine Wd (0:Nat) (fun k=>k≤zs.length∧∀j,j<k→at0 zs j≠x) (fun k=>[(8,.int .i64 k),(7,.int .i64 zs.length),(0,.slice a zs.length c),(1,.int .i64 x)]) (fun k=>zs.length-k) ?_ ?_ ?_
 ·exact⟨Nat.zero_le _,fun j hj=>by omega⟩
 ·simp [Ent,List.lookup,Y3]
 rintro k ⟨k1,k2⟩;by_cases c1:k<zs.length
 ·by_cases c2:x=at0 zs k
  ·simp -dsimp -implicitDefEqProofs (disch:=first|with_reducible assumption|omega) [go_sem,idx hcs];refine ZP (hk k (by omega) (by omega) ⟨fun _=>?_,fun _=>by omega⟩);rw[c2,← Ye c1];exact List.getElem_mem c1
  ·simp -dsimp -implicitDefEqProofs (disch:=first|with_reducible assumption|omega) [go_sem,idx hcs];refine⟨k+1,⟨by omega,fun j hj=>?_⟩,by omega,by simp [Ent,List.lookup],Za.refl _ _⟩;by_cases e:j=k
   ·subst e;exact fun e=>c2 e.symm
   ·exact k2 j (by omega)
 ·refine xx ?_;refine ZP (hk (-1) (by omega) (by omega) ⟨fun hh=>by omega,fun hm=>?_⟩);obtain⟨j,hj,e⟩:=List.mem_iff_getElem.1 hm;exact absurd (by rw[← Ye hj,e]) (k2 j (by omega))
theorem Zji {zs:List Int}(v:Value)(x:Int)(hz:Ints h .i64 v zs)(hx : -9223372036854775808≤x∧x≤9223372036854775807)(hk:K (.bool (decide (x∈zs))) L h):Zb prog 203 [v,.int .i64 x] L h K:=by
 have hz':=hz;obtain⟨a,c,rfl,hcap,hl,_,hcs⟩:=hz.open;refine ZS func203 rfl (rs:=[_]) rfl rfl ZX (by kernel_rfl) rfl rfl ?_;refine xx ?_;refine Zii _ x hz' hx fun i i1 i2 i3=>?_;refine xx ?_;have:decide (0≤i)=decide (x∈zs):=by simp only[i3]
 refine ZP ?_;rw[this];exact hk
def Zpt (l:List Zc)(st:Int):Nat→Nat
 | 0=>0
 | k+1=>Zpt l st k+if (gr ZQ l k).status=st then 1 else 0
theorem Zuy (l:List Zc)(st:Int):∀k,Zpt l st k≤k
 | 0=>Nat.le_refl _
 | k+1=>by have:=Zuy l st k;simp only[Zpt];split<;>omega
def Ygy (s:Ze)(l:List Int)(st:Int):Bool:=(List.range s.members.length).all fun j => !decide ((gr ZQ s.members j).status=st)||decide ((j:Int)∈l)
def Zdz (s:Ze)(l:List Int)(st:Int):Bool:=Ygy s l st&&decide (l.length=Zpt s.members st s.members.length)
theorem Zbh {s:Ze}{l:List Int}{st:Int}(hq:∀j,j<s.members.length→(gr ZQ s.members j).status=st→(j:Int)∈l):Ygy s l st=true:=by
 rw[Ygy,List.all_eq_true];intro j hj;by_cases e:(gr ZQ s.members j).status=st
 ·simp [e,hq j (List.mem_range.1 hj) e]
 ·simp [e]
theorem Ztq {s:Ze}{l:List Int}{st:Int}{k:Nat}(hk:k<s.members.length)(e:(gr ZQ s.members k).status=st)(hn:(k:Int) ∉ l):Ygy s l st=false:=by
 rw[Ygy,List.all_eq_false];exact⟨k,List.mem_range.2 hk,by simp [e,hn]⟩
theorem Zvf {s:Ze}(v:SV)(hs:Zo h v s)(few:Zv s){l:List Int}(lv:Value)(hlv:Ints h .i64 lv l)(st:Int)(hst : -9223372036854775808≤st∧st≤9223372036854775807)(hk:K (.bool (Zdz s l st)) L h):Zb prog 171 [stV s v,lv,.int .i64 st] L h K:=by
 obtain⟨ma,mc,hm,hmc,hml,_,hd⟩:=hs.m.open;have fm:=few.m;have hlv':=hlv;obtain⟨la,lc,rfl,hlc,hll,_,hcs⟩:=hlv.open;refine ZS func171 rfl (rs:=[_]) rfl rfl ZX (by kernel_rfl) rfl rfl ?_;refine xx ?_;refine Z0 fun b1 nb1 zb1=>?_;(try simp only[ZT]at nb1);simp -dsimp -implicitDefEqProofs (disch:=first|with_reducible assumption|omega) [go_sem,hm];refine Yu (0:Nat) (fun k=>k≤s.members.length∧∀j,j<k→(gr ZQ s.members j).status=st→(j:Int)∈l) (fun k=>[(14,.int .i64 k),(13,.int .i64 s.members.length),(12,.slice ma s.members.length mc),(7,.int .i64 (Zpt s.members st k)),(1,.slice la l.length lc),(2,.int .i64 st)]) (fun _=>L) (fun _=>h) (fun k=>s.members.length-k) ?_ ?_ ?_ ?_
 ·exact⟨Nat.zero_le _,fun j hj=>by omega⟩
 ·simp [Ent,List.lookup,Y3,hm,Zpt]
 ·exact Za.tail _ _ _
 rintro k ⟨k1,k2⟩;have hcl:=Zuy s.members st k;by_cases c1:k<s.members.length
 ·have hxo:=hs.mo (gr ZQ s.members k) (by rw[Z9 c1];exact List.getElem_mem c1);simp -dsimp -implicitDefEqProofs (disch:=first|with_reducible assumption|omega) [go_sem,↓WQ ZQ (by decide) hd,Ym];refine Z0 fun b2 nb2 zb2=>?_;(try simp only[ZT]at nb2);by_cases c2:(gr ZQ s.members k).status=st
  ·simp -dsimp -implicitDefEqProofs (disch:=first|with_reducible assumption|omega) [go_sem,Ym];refine Zji _ k hlv' ⟨by omega,by omega⟩ ?_;by_cases c3:(k:Int)∈l
   ·rw[decide_eq_true c3];refine xx ?_;refine⟨k+1,⟨by omega,fun j hj=>?_⟩,by omega,by simp [Ent,List.lookup,Zpt,c2],Za.tail _ _ _⟩;by_cases e:j=k
    ·subst e;exact fun _=>c3
    ·exact k2 j (by omega)
   ·rw[Zdz,Ztq c1 c2 c3]at hk;rw[decide_eq_false c3];refine xx ?_;exact ZO (ZP hk)
  ·simp -dsimp -implicitDefEqProofs (disch:=first|with_reducible assumption|omega) [go_sem,Ym];refine⟨k+1,⟨by omega,fun j hj=>?_⟩,by omega,by simp [Ent,List.lookup,Zpt,c2],Za.tail _ _ _⟩;by_cases e:j=k
   ·subst e;exact fun e=>absurd e c2
   ·exact k2 j (by omega)
 ·have hkl:k=s.members.length:=by omega
  subst hkl;rw[Zdz,Zbh k2,Bool.true_and]at hk;refine xx ?_;refine ZP ?_;have e:decide ((l.length:Int)=(Zpt s.members st s.members.length:Nat))=decide (l.length=Zpt s.members st s.members.length):=by simp only[Int.natCast_inj]
  first
   | exact hk
   | (rw[e];exact hk)
def We (s:Ze):Bool:=decide (s.members.length≤128)&&s.members.all (fun m=>YV s.par m&&Y1 s m.owner)&&Zdz s s.entry 1&&Zdz s s.exit 3
theorem Zlc {s:Ze}(v:SV)(hs:Zo h v s)(few:Zv s)(hr:Yd s.par=true)(hk:K (.bool (We s)) L h):Zb prog 61 [stV s v] L h K:=by
 obtain⟨pa,pc,ma,mc,ea,ec,xa,xc,oa,oc,da,dc,ta,tc,ka,kc,ra,rc,rfl⟩:=hs.slices;have hd:Zh Ym 6 h (.slice ma s.members.length mc) s.members:=hs.m;have fm:=few.m;unfold We at hk;refine ZS func61 rfl (rs:=[_]) rfl rfl ZX (by kernel_rfl) rfl rfl ?_;refine xx ?_;refine Z0 fun b1 nb1 zb1=>?_;(try simp only[ZT]at nb1);refine xx ?_;by_cases c0:s.members.length≤128
 ·rw[decide_eq_true c0,Bool.true_and]at hk;refine xx ?_;refine Yu (0:Nat) (fun k=>k≤s.members.length∧∀j,j<k→(fun m:Zc=>YV s.par m&&Y1 s m.owner) (gr ZQ s.members j)=true) (fun k=>[(14,.int .i64 k),(13,.int .i64 s.members.length),(12,.slice ma s.members.length mc),(1,.pointer (some ⟨b1,0,none⟩))]) (fun _=>⟨b1,132,stC s ⟨.slice pa s.purses.length pc,.slice ma s.members.length mc,.slice ea s.entry.length ec,.slice xa s.exit.length xc,.slice oa s.pool.length oc,.slice da s.dues.length dc,.slice ta s.motions.length tc,.slice ka s.marks.length kc,.slice ra s.ring.length rc⟩,41⟩::L) (fun _=>h) (fun k=>s.members.length-k) ?_ ?_ ?_ ?_
  ·exact⟨Nat.zero_le _,fun j hj=>by omega⟩
  ·simp [Ent,List.lookup,Y3]
  ·exact Za.refl _ _
  rintro k ⟨k1,k2⟩;by_cases c1:k<s.members.length
  ·have hxo:=hs.mo (gr ZQ s.members k) (by rw[Z9 c1];exact List.getElem_mem c1);simp -dsimp -implicitDefEqProofs (disch:=first|with_reducible assumption|omega) [go_sem,↓WQ ZQ (by decide) hd,Ym];refine Z0 fun b2 nb2 zb2=>?_;(try simp only[ZT]at nb2);simp -dsimp -implicitDefEqProofs (disch:=first|with_reducible assumption|omega) [go_sem,Ym];refine Zxe s.par hs.ok.p (gr ZQ s.members k) hxo ?_;rw[hr,Bool.true_and]
   cases hq:YV s.par (gr ZQ s.members k) with
   | false =>
    rw[YC ZQ _ _ c1 (by rw[hq];rfl)]at hk;refine xx ?_;exact ZO (ZO (ZP (by simpa using hk)))
   | true =>
    refine xx ?_;refine VQ _ hs few _ ?_
    cases hq2:Y1 s (gr ZQ s.members k).owner with
    | false =>
     rw[YC ZQ _ _ c1 (by rw[hq,hq2];rfl)]at hk;refine xx ?_;exact ZO (ZO (ZP (by simpa using hk)))
    | true =>
     refine xx ?_;refine⟨k+1,⟨by omega,fun j hj=>?_⟩,by omega,by simp [Ent,List.lookup],Za.tail _ _ _⟩;by_cases e:j=k
     ·subst e;first|exact⟨hq,hq2⟩ | (simp only[hq,hq2];rfl)|simp [hq,hq2]
     ·first|exact k2 j (by omega)|simpa using k2 j (by omega)
  ·have hkl:k=s.members.length:=by omega
   subst hkl;rw[UK ZQ _ _ k2,Bool.true_and]at hk;refine xx ?_;refine Zvf _ hs few _ hs.e 1 (by decide) ?_
   cases hq:Zdz s s.entry 1 with
   | false =>
    rw[hq]at hk;refine xx ?_;exact ZO (ZP (by simpa using hk))
   | true =>
    rw[hq]at hk;refine xx ?_;refine Zvf _ hs few _ hs.x 3 (by decide) ?_;refine xx ?_;exact ZO (ZP (by simpa using hk))
 ·rw[decide_eq_false c0]at hk;refine xx ?_;exact ZO (ZP (by simpa using hk))
def Ytf:List IntKind:=[.u64,.u64,.u64,.u64,.u64,.u64,.u64,.u64,.u64,.u64,.u64,.u64,.u64,.u64,.i64,.i64,.i64,.i64,.i64,.i64,.i64,.i64,.i64,.i64]
abbrev motV (m:Zl)(y n:Value):Value := .agg #[.int .i64 m.acct,.int .i64 m.what,.int .u64 m.par.inc,.int .u64 m.par.maxEff,.int .u64 m.par.floor,.int .u64 m.par.cap,.int .u64 m.par.up,.int .u64 m.par.down,.int .u64 m.par.bias,.int .u64 m.par.quot,.int .u64 m.par.biasEm,.int .u64 m.par.quotEm,.int .u64 m.par.recover,.int .u64 m.par.scoreCap,.int .u64 m.par.rate,.int .u64 m.par.bond,.int .i64 m.par.delay,.int .i64 m.par.streak,.int .i64 m.par.boost,.int .i64 m.par.absent,.int .i64 m.par.burn,.int .i64 m.par.churn,.int .i64 m.par.wait,.int .i64 m.par.poll,.int .i64 m.par.enact,.int .i64 m.par.quorum,.int .i64 m.to,.int .u64 m.amt,.int .i64 m.ends,.int .i64 m.due,.int .i64 m.state,y,n]
def YJ (m:Zl):Bool:=wi m.acct 0 63&&wi m.to 0 63&&wi m.what 1 4&&wi m.state 1 4
def Ww (m:Zl):Bool:=wi m.ends 0 2147483647&&wi m.due 0 2147483647&&decide (m.amt≤4611686018427387904)
def WF (m:Zl):Bool:=YJ m&&Ww m&&Jz m.yes 128&&Jz m.no 128&&(if m.what=1 then Yd m.par else decide (m.par=Zgv))
theorem Ygx (p q:Zd):decide (Ys p++Yo p=Ys q++Yo q)=decide (p=q):=by
 apply decide_eq_decide.2
 constructor
 ·intro e;simp only[Ys,Yo,List.cons_append,List.nil_append,List.cons.injEq,and_true]at e
  cases p;cases q;simp only at e;simp only[Zd.mk.injEq];exact e
 ·rintro rfl;rfl
theorem Zzc (p q:Zd)(x y:Operand)(K:Value→Prop)(t:Zm K):VN prog .eql 24 x y (WR p) (WR q) K t=K (.bool (decide (p=q))):=by
 rw[← Ygx];exact UF (T:=24) (ks:=Ytf) (by kernel_rfl) (by kernel_rfl) (by kernel_rfl) (by kernel_rfl) (Ys p++Yo p) (Ys q++Yo q) rfl rfl x y K t
theorem Zkt (m:Zl)(y n:Value)(hy:Ints h .u8 y m.yes)(hn:Ints h .u8 n m.no)(ok:Wfw m)(hk:K (.bool (WF m)) L h):Zb prog 173 [motV m y n] L h K:=by
 have hy':=hy;have hn':=hn;obtain⟨ya,yc,rfl,_⟩:=hy.open;obtain⟨na,nc,rfl,_⟩:=hn.open;have ua:=ok.a;unfold WF at hk;refine ZS func173 rfl (rs:=[_]) rfl rfl ZX (by kernel_rfl) rfl rfl ?_;refine xx ?_;refine Z0 fun b1 nb1 zb1=>?_;(try simp only[ZT]at nb1);refine xx ?_;have no1:∀X:Bool,YJ m=false→K (.bool (YJ m&&X)) L h→K (.bool false) L h:=fun X e k=>by rwa [e]at k
 refine JF _ _ _ ?_
 cases q1:wi m.acct 0 63 with
 | false =>
  rw[show YJ m=false by simp [YJ,q1]]at hk;refine xx ?_;exact ZO (ZP (by simpa using hk))
 | true =>
 refine xx ?_;refine JF _ _ _ ?_
 cases q2:wi m.to 0 63 with
 | false =>
  rw[show YJ m=false by simp [YJ,q2]]at hk;refine xx ?_;exact ZO (ZP (by simpa using hk))
 | true =>
 refine xx ?_;refine JF _ _ _ ?_
 cases q3:wi m.what 1 4 with
 | false =>
  rw[show YJ m=false by simp [YJ,q3]]at hk;refine xx ?_;exact ZO (ZP (by simpa using hk))
 | true =>
 refine xx ?_;refine JF _ _ _ ?_
 cases q4:wi m.state 1 4 with
 | false =>
  rw[show YJ m=false by simp [YJ,q4]]at hk;refine xx ?_;exact ZO (ZP (by simpa using hk))
 | true =>
 rw[show YJ m=true by simp [YJ,q1,q2,q3,q4],Bool.true_and]at hk;refine xx ?_;refine JF _ _ _ ?_
 cases q5:wi m.ends 0 2147483647 with
 | false =>
  rw[show Ww m=false by simp [Ww,q5]]at hk;refine xx ?_;exact ZO (ZP (by simpa using hk))
 | true =>
 refine xx ?_;refine JF _ _ _ ?_
 cases q6:wi m.due 0 2147483647 with
 | false =>
  rw[show Ww m=false by simp [Ww,q6]]at hk;refine xx ?_;exact ZO (ZP (by simpa using hk))
 | true =>
 by_cases q7:m.amt≤4611686018427387904
 ·rw[show Ww m=true by simp [Ww,q5,q6,q7],Bool.true_and]at hk;refine xx ?_;refine Zhc _ 128 hy' (by decide) (by decide) ?_
  cases q8:Jz m.yes 128 with
  | false =>
   rw[q8]at hk;refine xx ?_;exact ZO (ZP (by simpa using hk))
  | true =>
  rw[q8,Bool.true_and]at hk;refine xx ?_;refine Zhc _ 128 hn' (by decide) (by decide) ?_
  cases q9:Jz m.no 128 with
  | false =>
   rw[q9]at hk;refine xx ?_;exact ZO (ZP (by simpa using hk))
  | true =>
  rw[q9,Bool.true_and]at hk;by_cases c:m.what=1
  ·rw[if_pos c]at hk;refine xx ?_;refine WY m.par ok.p ?_
   cases hr:Yd m.par with
   | false =>
    rw[hr]at hk;refine xx ?_;exact ZO (ZP hk)
   | true =>
    rw[hr]at hk;refine xx ?_;exact ZO (ZP hk)
  ·rw[if_neg c]at hk;refine xx ?_;refine(Zzc m.par Zgv _ _ _ _).mpr ?_;refine xx ?_;exact ZO (ZP hk)
 ·rw[show Ww m=false by simp [Ww,q7]]at hk;refine xx ?_;exact ZO (ZP (by simpa using hk))
def Vk (s:Ze):Bool:=decide (s.motions.length≤32)&&s.motions.all (fun m=>WF m&&Y1 s m.acct&&Y1 s m.to)
theorem Zne {s:Ze}(v:SV)(hs:Zo h v s)(few:Zv s)(hk:K (.bool (Vk s)) L h):Zb prog 63 [stV s v] L h K:=by
 obtain⟨pa,pc,ma,mc,ea,ec,xa,xc,oa,oc,da,dc,ta,tc,ka,kc,ra,rc,rfl⟩:=hs.slices;obtain⟨q,hd,t2,t3⟩:=hs.t;have fm:=few.t;have hql:q.length=s.motions.length:=by rw[← t2,List.length_map]
 have hgr:∀k,k<q.length→gr Z5 s.motions k=(gr Z2 q k).2.2:=fun k hk=>by
  rw[Z9 hk,Z9 (by omega)];simp only[← t2,List.getElem_map]
 unfold Vk at hk;refine ZS func63 rfl (rs:=[_]) rfl rfl ZX (by kernel_rfl) rfl rfl ?_;refine xx ?_;refine Z0 fun b1 nb1 zb1=>?_;(try simp only[ZT]at nb1);refine xx ?_;by_cases c0:s.motions.length≤32
 ·rw[decide_eq_true c0,Bool.true_and]at hk;refine xx ?_;refine Yu (0:Nat) (fun k=>k≤s.motions.length∧∀j,j<k→(fun m:Zl=>WF m&&Y1 s m.acct&&Y1 s m.to) (gr Z5 s.motions j)=true) (fun k=>[(14,.int .i64 k),(13,.int .i64 s.motions.length),(12,.slice ta s.motions.length tc),(1,.pointer (some ⟨b1,0,none⟩))]) (fun _=>⟨b1,132,stC s ⟨.slice pa s.purses.length pc,.slice ma s.members.length mc,.slice ea s.entry.length ec,.slice xa s.exit.length xc,.slice oa s.pool.length oc,.slice da s.dues.length dc,.slice ta s.motions.length tc,.slice ka s.marks.length kc,.slice ra s.ring.length rc⟩,41⟩::L) (fun _=>h) (fun k=>s.motions.length-k) ?_ ?_ ?_ ?_
  ·exact⟨Nat.zero_le _,fun j hj=>by omega⟩
  ·simp [Ent,List.lookup,Y3]
  ·exact Za.refl _ _
  rintro k ⟨k1,k2⟩;by_cases c1:k<s.motions.length
  ·have hx:Zs h (gr Z2 q k):=by rw[Z9 (by omega)];exact t3 _ (List.getElem_mem (by omega))
   have hg:=hgr k (by omega);obtain⟨x1,y1,hv1,_⟩:=hx.y.open;obtain⟨x2,y2,hv2,_⟩:=hx.n.open;simp -dsimp -implicitDefEqProofs (disch:=first|with_reducible assumption|omega) [go_sem,↓WQ Z2 (by decide) hd,Wk];refine Z0 fun b2 nb2 zb2=>?_;(try simp only[ZT]at nb2);simp -dsimp -implicitDefEqProofs (disch:=first|with_reducible assumption|omega) [go_sem,Wk,hv1,hv2];have m1:=hx.y;have m2:=hx.n;rw[hv1]at m1;rw[hv2]at m2;refine Zkt (gr Z2 q k).2.2 _ _ m1 m2 hx.ok ?_
   cases hq:WF (gr Z2 q k).2.2 with
   | false =>
    rw[YC Z5 _ _ c1 (by rw[hg,hq];rfl)]at hk;refine xx ?_;exact ZO (ZO (ZP (by simpa using hk)))
   | true =>
   refine xx ?_;refine VQ _ hs few _ ?_
   cases hq2:Y1 s (gr Z2 q k).2.2.acct with
   | false =>
    rw[YC Z5 _ _ c1 (by rw[hg,hq,hq2];rfl)]at hk;refine xx ?_;exact ZO (ZO (ZP (by simpa using hk)))
   | true =>
   refine xx ?_;refine VQ _ hs few _ ?_
   cases hq3:Y1 s (gr Z2 q k).2.2.to with
   | false =>
    rw[YC Z5 _ _ c1 (by rw[hg,hq,hq2,hq3];rfl)]at hk;refine xx ?_;exact ZO (ZO (ZP (by simpa using hk)))
   | true =>
   refine xx ?_;refine⟨k+1,⟨by omega,fun j hj=>?_⟩,by omega,by simp [Ent,List.lookup],Za.tail _ _ _⟩;by_cases e:j=k
   ·subst e;first|exact⟨⟨hq,hq2⟩,hq3⟩ | simp [hg,hq,hq2,hq3]
   ·first|exact k2 j (by omega)|simpa using k2 j (by omega)
  ·have hkl:k=s.motions.length:=by omega
   subst hkl;rw[UK Z5 _ _ k2]at hk;refine xx ?_;exact ZO (ZP hk)
 ·rw[decide_eq_false c0]at hk;refine xx ?_;exact ZO (ZP (by simpa using hk))
theorem GK {bs:List Int}(v:Value)(hb:Ints h .u8 v bs)(hk:K (.bool (Jz bs 128)) L h):Zb prog 284 [v] L h K:=by
 have hb':=hb;obtain⟨a,c,rfl,_⟩:=hb.open;refine ZS func284 rfl (rs:=[_]) rfl rfl ZX (by kernel_rfl) rfl rfl ?_;refine xx ?_;refine Zhc _ 128 hb' (by decide) (by decide) ?_
 cases hc:Jz bs 128 with
 | false =>
  rw[hc]at hk;refine xx ?_;exact ZP hk
 | true =>
  rw[hc]at hk;refine xx ?_;exact ZP hk
def Zfr (ring:List (List Int))(marks:List Int):Bool:=decide (ring.length≤8)&&Jz marks 128&&ring.all (fun b=>Jz b 128)
theorem Zvu {l:List QS}{bs:List Int}(v u:Value)(hv:Zx h v l)(hu:Ints h .u8 u bs)(hn:l.length≤100000)(hk:K (.int .i64 (if Zfr (xsL l) bs then 0 else 60)) L h):Zb prog 174 [v,u] L h K:=by
 have hu':=hu;obtain⟨a,c,rfl,hc,hl,_,hcx,hd⟩:=hv.open;obtain⟨b,c',rfl,_⟩:=hu.open;unfold Zfr at hk;rw[WZ]at hk;refine ZS func174 rfl (rs:=[_]) rfl rfl ZX (by kernel_rfl) rfl rfl ?_;refine xx ?_;by_cases c0:l.length≤8
 ·rw[decide_eq_true c0,Bool.true_and]at hk;refine xx ?_;refine GK _ hu' ?_
  cases h1:Jz bs 128 with
  | false =>
   rw[h1]at hk;refine xx ?_;exact ZP (by simpa using hk)
  | true =>
  rw[h1,Bool.true_and]at hk;refine xx ?_;refine Wd (0:Nat) (fun k=>k≤l.length∧∀j,j<k→Jz (gs l j).2 128=true) (fun k=>[(17,.int .i64 k),(16,.int .i64 l.length),(15,.slice a l.length c)]) (fun k=>l.length-k) ?_ ?_ ?_
  ·exact⟨Nat.zero_le _,fun j hj=>by omega⟩
  ·simp [Ent,List.lookup,Y3]
  rintro k ⟨k1,k2⟩;have hgs:∀j,j<l.length→gr [] (xsL l) j=(gs l j).2:=fun j hj=>by
   rw[Z9 (by rw[WZ];exact hj),Zdb hj];simp [xsL]
  by_cases c1:k<l.length
  ·have hi:=hd.at c1;have hi':=hi;obtain⟨x1,y1,hv1,_⟩:=hi.open;simp -dsimp -implicitDefEqProofs (disch:=first|with_reducible assumption|omega) [go_sem,idx hcx,hv1];rw[hv1]at hi';refine GK _ hi' ?_
   cases h2:Jz (gs l k).2 128 with
   | false =>
    rw[YC [] _ _ (k:=k) (by rw[WZ];exact c1) (by rw[hgs k c1,h2])]at hk;refine xx ?_;exact ZP (by simpa using hk)
   | true =>
    refine xx ?_;refine⟨k+1,⟨by omega,fun j hj=>?_⟩,by omega,by simp [Ent,List.lookup],Za.refl _ _⟩;by_cases e:j=k
    ·subst e;exact h2
    ·exact k2 j (by omega)
  ·rw[UK [] _ _ (fun j hj=>by rw[WZ]at hj;rw[hgs j hj];exact k2 j (by omega))]at hk;refine xx ?_;exact ZP (by simpa using hk)
 ·rw[decide_eq_false c0]at hk;refine xx ?_;exact ZP (by simpa using hk)
def U8 (s:Ze):Bool:=Zfr s.ring s.marks&&(List.range 128).all fun i=>decide (i<s.members.length) || !WH s.marks i
theorem Zww {s:Ze}(v:SV)(hs:Zo h v s)(few:Zv s)(hk:K (.bool (U8 s)) L h):Zb prog 64 [stV s v] L h K:=by
 obtain⟨pa,pc,ma,mc,ea,ec,xa,xc,oa,oc,da,dc,ta,tc,ka,kc,ra,rc,rfl⟩:=hs.slices;obtain⟨q,hd,t2⟩:=hs.r;have fm:=few.m;have fr:=few.r;have hql:q.length=s.ring.length:=by rw[← t2,WZ]
 have hkk:=hs.k;simp only at hd hkk;unfold U8 at hk;refine ZS func64 rfl (rs:=[_]) rfl rfl ZX (by kernel_rfl) rfl rfl ?_;refine xx ?_;refine Z0 fun b1 nb1 zb1=>?_;(try simp only[ZT]at nb1);refine xx ?_;refine Zvu _ _ hd hkk (by omega) ?_;rw[t2]
 cases h1:Zfr s.ring s.marks with
 | false =>
  rw[h1]at hk;refine xx ?_;exact ZO (ZP (by simpa using hk))
 | true =>
 rw[h1,Bool.true_and]at hk;refine xx ?_;refine Yu s.members.length (fun k=>s.members.length≤k∧k≤100000∧∀j,s.members.length≤j→j<k→WH s.marks (j:Int)=false) (fun k=>[(3,.int .i64 k),(1,.pointer (some ⟨b1,0,none⟩))]) (fun _=>⟨b1,132,stC s ⟨.slice pa s.purses.length pc,.slice ma s.members.length mc,.slice ea s.entry.length ec,.slice xa s.exit.length xc,.slice oa s.pool.length oc,.slice da s.dues.length dc,.slice ta s.motions.length tc,.slice ka s.marks.length kc,.slice ra s.ring.length rc⟩,41⟩::L) (fun _=>h) (fun k=>100000-k) ?_ ?_ ?_ ?_
 ·exact⟨Nat.le_refl _,fm,fun j hj=>by omega⟩
 ·simp [Ent,List.lookup,Y3]
 ·exact Za.refl _ _
 rintro k ⟨k0,k1,k2⟩;by_cases c1:k<128
 ·refine xx ?_;refine Gv _ k hkk (by omega) ?_
  cases h2:WH s.marks (k:Int) with
  | true =>
   have:((List.range 128).all fun i=>decide (i<s.members.length) || !WH s.marks i)=false:=by
    rw[List.all_eq_false];exact⟨k,List.mem_range.2 c1,by simp [h2];omega⟩
   rw[this]at hk;refine xx ?_;exact ZO (ZP hk)
  | false =>
   refine xx ?_;refine⟨k+1,⟨by omega,by omega,fun j hj hj2=>?_⟩,by omega,by simp [Ent,List.lookup],Za.refl _ _⟩;by_cases e:j=k
   ·subst e;exact h2
   ·exact k2 j hj (by omega)
 ·have:((List.range 128).all fun i=>decide (i<s.members.length) || !WH s.marks i)=true:=by
   rw[List.all_eq_true];intro i hi;have:=List.mem_range.1 hi;by_cases e:i<s.members.length
   ·simp [e]
   ·simp [k2 i (by omega) (by omega)]
  rw[this]at hk;refine xx ?_;exact ZO (ZP hk)
abbrev depV (d:Zk):Value := .agg #[.int .i64 d.acct,.int .i64 d.mem,.int .u64 d.amt,.bool d.new]
def Zbk (d:Zk):Bool:=wi d.acct 0 63&&wi d.mem 0 127 && !(d.new&&decide (d.mem≠0))&&decide (1≤d.amt)&&decide (d.amt≤4611686018427387904)
theorem VT (hk:K (.slice none 0 0) L h):Zb prog 101 [.slice none 0 0] L h K:=by
 refine ZS func101 rfl (rs:=[_]) rfl rfl ZX (by kernel_rfl) rfl rfl ?_;refine xx ?_;exact ZP hk
theorem Ycp (d:Zk)(ok:ZI d)(hk:∀a n c,K (.tuple #[.slice a n c,.int .i64 (if Zbk d then 0 else 2)]) L h):Zb prog 172 [.slice none 0 0,depV d] L h K:=by
 have ua:=ok.a;refine ZS func172 rfl (rs:=[_,_]) rfl rfl ZX (by kernel_rfl) rfl rfl ?_;refine xx ?_;refine Z0 fun b1 nb1 zb1=>?_;(try simp only[ZT]at nb1);refine xx ?_;refine Znc _ _ _ ?_
 cases q1:wi d.acct 0 63 with
 | false =>
  simp only[Zbk,q1,Bool.false_and,Bool.false_eq_true,if_false]at hk;refine xx ?_;exact ZO (ZP (hk none 0 0))
 | true =>
 refine xx ?_;refine Znc _ _ _ ?_
 cases q2:wi d.mem 0 127 with
 | false =>
  simp only[Zbk,q2,Bool.and_false,Bool.false_and,Bool.false_eq_true,if_false]at hk;refine xx ?_;exact ZO (ZP (hk none 0 0))
 | true =>
 have fin1:(d.new&&decide (d.mem≠0))=true→Zbk d=false:=fun e=>by simp only[Zbk,e,Bool.not_true,Bool.and_false,Bool.false_and]
 have rest:(d.new&&decide (d.mem≠0))=false→Zbk d=(decide (1≤d.amt)&&decide (d.amt≤4611686018427387904)):=fun e=>by simp only[Zbk,e,q1,q2,Bool.not_false,Bool.true_and]
 cases q3:d.new with
 | true =>
  have q3':=q3;by_cases q4:d.mem=0
  ·rw[rest (by simp [q4])]at hk;by_cases q5:1≤d.amt
   ·by_cases q6:d.amt≤4611686018427387904
    ·rw[decide_eq_true q5,decide_eq_true q6]at hk;refine xx ?_;refine Yj (.tk 0 (.tkl 2 (.o1 1 (.o1 3 (.o1 4 (.tk 5 (.tk 6 (.fin))) (.nil)) (.nil)) (.o1 3 (.o1 1 (.o1 4 (.tk 5 (.tk 6 (.fin))) (.nil)) (.nil)) (.nil))))) (by kernel_rfl) (by kernel_rfl) _ (Za.refl _ _) ?_;refine xx ?_;refine Y0 ?_ ?_
     ·refine xx ?_;refine VT ?_;refine xkp (Za.refl _ _) ?_;refine xx ?_;refine Z0 fun b2 nb2 zb2=>?_;(try simp only[ZT]at nb2);refine xkp (Za.tail _ _ _) ?_;refine xx ?_;refine Z3 (t:=28) (e:=164) (sz:=4) (bytes:=32) (by kernel_rfl) Zdw rfl rfl rfl rfl (by decide) [_] _ none 0 [] rfl rfl (Src.own (b:=b2) List.mem_cons_self) (m:=1) (news:=[.int .i64 d.acct,.int .i64 d.mem,.int .u64 d.amt,.bool true]) rfl (by intro u hu;simp only[List.mem_cons,List.not_mem_nil,or_false]at hu;rcases hu with rfl|rfl|rfl|rfl<;>rfl) (by decide) (by decide) ?_;intro o' j1 j2 j3;have ho:=Yg j1;obtain⟨a',c',e',_⟩:=ho;rw[e'];refine xx ?_;refine xkp (Za.trans (Za.tail _ _ _) (Za.oent _ _ _ _ _ _)) ?_;refine xx ?_;exact ZO (Wt (ZO (ZP (hk _ _ _))))
     ·refine xx ?_;refine Z0 fun b2 nb2 zb2=>?_;(try simp only[ZT]at nb2);refine xkp (Za.tail _ _ _) ?_;refine xx ?_;refine VT ?_;refine xkp (Za.tail _ _ _) ?_;refine xx ?_;refine Z3 (t:=28) (e:=164) (sz:=4) (bytes:=32) (by kernel_rfl) Zdw rfl rfl rfl rfl (by decide) [_] _ none 0 [] rfl rfl (Src.own (b:=b2) List.mem_cons_self) (m:=1) (news:=[.int .i64 d.acct,.int .i64 d.mem,.int .u64 d.amt,.bool true]) rfl (by intro u hu;simp only[List.mem_cons,List.not_mem_nil,or_false]at hu;rcases hu with rfl|rfl|rfl|rfl<;>rfl) (by decide) (by decide) ?_;intro o' j1 j2 j3;have ho:=Yg j1;obtain⟨a',c',e',_⟩:=ho;rw[e'];refine xx ?_;refine xkp (Za.trans (Za.tail _ _ _) (Za.oent _ _ _ _ _ _)) ?_;refine xx ?_;exact ZO (Wt (ZO (ZP (hk _ _ _))))
    ·simp only[decide_eq_false q6,Bool.and_false,Bool.false_eq_true,if_false]at hk;refine xx ?_;exact ZO (ZP (hk none 0 0))
   ·simp only[decide_eq_false q5,Bool.false_and,Bool.false_eq_true,if_false]at hk;refine xx ?_;exact ZO (ZP (hk none 0 0))
  ·rw[fin1 (by simp [q3,q4])]at hk;refine xx ?_;exact ZO (ZP (hk none 0 0))
 | false =>
  rw[rest (by simp [q3])]at hk;by_cases q5:1≤d.amt
  ·by_cases q6:d.amt≤4611686018427387904
   ·rw[decide_eq_true q5,decide_eq_true q6]at hk;refine xx ?_;refine Yj (.tk 0 (.tkl 2 (.o1 1 (.o1 3 (.o1 4 (.tk 5 (.tk 6 (.fin))) (.nil)) (.nil)) (.o1 3 (.o1 1 (.o1 4 (.tk 5 (.tk 6 (.fin))) (.nil)) (.nil)) (.nil))))) (by kernel_rfl) (by kernel_rfl) _ (Za.refl _ _) ?_;refine xx ?_;refine Y0 ?_ ?_
    ·refine xx ?_;refine VT ?_;refine xkp (Za.refl _ _) ?_;refine xx ?_;refine Z0 fun b2 nb2 zb2=>?_;(try simp only[ZT]at nb2);refine xkp (Za.tail _ _ _) ?_;refine xx ?_;refine Z3 (t:=28) (e:=164) (sz:=4) (bytes:=32) (by kernel_rfl) Zdw rfl rfl rfl rfl (by decide) [_] _ none 0 [] rfl rfl (Src.own (b:=b2) List.mem_cons_self) (m:=1) (news:=[.int .i64 d.acct,.int .i64 d.mem,.int .u64 d.amt,.bool false]) rfl (by intro u hu;simp only[List.mem_cons,List.not_mem_nil,or_false]at hu;rcases hu with rfl|rfl|rfl|rfl<;>rfl) (by decide) (by decide) ?_;intro o' j1 j2 j3;have ho:=Yg j1;obtain⟨a',c',e',_⟩:=ho;rw[e'];refine xx ?_;refine xkp (Za.trans (Za.tail _ _ _) (Za.oent _ _ _ _ _ _)) ?_;refine xx ?_;exact ZO (Wt (ZO (ZP (hk _ _ _))))
    ·refine xx ?_;refine Z0 fun b2 nb2 zb2=>?_;(try simp only[ZT]at nb2);refine xkp (Za.tail _ _ _) ?_;refine xx ?_;refine VT ?_;refine xkp (Za.tail _ _ _) ?_;refine xx ?_;refine Z3 (t:=28) (e:=164) (sz:=4) (bytes:=32) (by kernel_rfl) Zdw rfl rfl rfl rfl (by decide) [_] _ none 0 [] rfl rfl (Src.own (b:=b2) List.mem_cons_self) (m:=1) (news:=[.int .i64 d.acct,.int .i64 d.mem,.int .u64 d.amt,.bool false]) rfl (by intro u hu;simp only[List.mem_cons,List.not_mem_nil,or_false]at hu;rcases hu with rfl|rfl|rfl|rfl<;>rfl) (by decide) (by decide) ?_;intro o' j1 j2 j3;have ho:=Yg j1;obtain⟨a',c',e',_⟩:=ho;rw[e'];refine xx ?_;refine xkp (Za.trans (Za.tail _ _ _) (Za.oent _ _ _ _ _ _)) ?_;refine xx ?_;exact ZO (Wt (ZO (ZP (hk _ _ _))))
   ·simp only[decide_eq_false q6,Bool.and_false,Bool.false_eq_true,if_false]at hk;refine xx ?_;exact ZO (ZP (hk none 0 0))
  ·simp only[decide_eq_false q5,Bool.false_and,Bool.false_eq_true,if_false]at hk;refine xx ?_;exact ZO (ZP (hk none 0 0))
def V4 (s:Ze)(d:Zk):Bool:=Zbk d&&Y1 s d.acct&&(d.new||wi d.mem 0 ((s.members.length:Int)-1))
def VR (s:Ze)(d:Zi):Bool:=Y1 s d.acct&&wi d.at' 0 2147483647&&decide (1≤d.amt)&&decide (d.amt≤4611686018427387904)
def Zqw (l:List Zi)(k:Nat):Bool:=(List.range k).any fun j=>decide ((gr ZV l k).acct=(gr ZV l j).acct)&&decide ((gr ZV l k).at'=(gr ZV l j).at')
def Zso (l:List Zi)(k:Nat):Bool:=decide (k=0)||decide ((gr ZV l (k-1)).at'≤(gr ZV l k).at')
def Zdi (s:Ze)(k:Nat):Bool:=VR s (gr ZV s.dues k) && !Zqw s.dues k&&Zso s.dues k
def Jw (s:Ze):Bool:=(List.range s.dues.length).all (Zdi s)
def VJ (s:Ze):Bool:=decide (s.pool.length≤256)&&s.pool.all (V4 s)&&Jw s
theorem Zyq:prog.underlying 240=some (.map 167 4):=by kernel_rfl
theorem Zvr:Wgd prog 167 [.i64,.i64,.u64]:=⟨by kernel_rfl,by kernel_rfl,by kernel_rfl⟩
theorem Yfa (W:World):(zeroValue 4:Sem Value).run prog W = .ok (.bool false) W:=by kernel_rfl
def Ztz (d:Zi):List Int:=[d.acct,d.at',0]
def esD (l:List Zi)(k:Nat):List (List Int×Value):=(l.take k).map fun d=>(Ztz d,.bool true)
theorem Zpa {l:List Zi}{k:Nat}(hk:k<l.length):esD l (k+1)=esD l k++[(Ztz (gr ZV l k),.bool true)]:=by
 rw[Z9 hk,esD,esD,List.take_succ_eq_append_getElem hk,List.map_append];rfl
theorem Zmm (l:List Zi)(k:Nat):∀e∈esD l k,e.1.length=3:=fun e he=>by
 obtain⟨d,_,rfl⟩:=List.mem_map.1 he;rfl
theorem Zvi {es:List (List Int×Value)}{n:List Int}(h:∀e∈es,e.1≠n):Znx es n=none:=by
 induction es with
 | nil=>rfl
 | cons e es ih=>rw[Znx,if_neg (fun c=>h e (by simp) c.symm)];exact ih fun x hx=>h x (by simp [hx])
theorem Zzp {es:List (List Int×Value)}{n:List Int}{v:Value}(h:∃e∈es,e.1=n)(hv:∀e∈es,e.2=v):Znx es n=some v:=by
 induction es with
 | nil=>obtain⟨e,he,_⟩:=h;cases he
 | cons e es ih =>
  rw[Znx];split
  ·rw[hv e (by simp)]
  ·rename_i c;refine ih ?_ fun x hx=>hv x (by simp [hx]);obtain⟨x,hx,hxe⟩:=h;rcases List.mem_cons.1 hx with rfl|hx
   ·exact absurd hxe.symm c
   ·exact⟨x,hx,hxe⟩
theorem keyD_eq {a b:Zi}:Ztz a=Ztz b↔a.acct=b.acct∧a.at'=b.at':=by simp [Ztz]
theorem Zhi {l:List Zi}{k:Nat}(hk:k<l.length):(Zqw l k=false→Znx (esD l k) (Ztz (gr ZV l k))=none)∧(Zqw l k=true→Znx (esD l k) (Ztz (gr ZV l k))=some (.bool true)):=by
 constructor
 ·intro hm;rw[Zqw,List.any_eq_false]at hm;refine Zvi fun e he hc=>?_;obtain⟨d,hd,rfl⟩:=List.mem_map.1 he;obtain⟨j,hj,rfl⟩:=List.mem_iff_getElem.1 hd;simp only[List.length_take]at hj;have:=hm j (List.mem_range.2 (by omega));rw[List.getElem_take]at hc;have hc':=keyD_eq.1 hc;rw[Z9 (l:=l) (i:=j) (by omega)]at this;simp [hc'.1,hc'.2]at this
 ·intro hm;rw[Zqw,List.any_eq_true]at hm;obtain⟨j,hj,hq⟩:=hm;have hj':=List.mem_range.1 hj;simp only[Bool.and_eq_true,decide_eq_true_eq]at hq;refine Zzp ⟨(Ztz (gr ZV l j),.bool true),?_,keyD_eq.2 ⟨hq.1.symm,hq.2.symm⟩⟩ fun e he=>?_
  ·refine List.mem_map.2 ⟨gr ZV l j,?_,rfl⟩;rw[Z9 (by omega)];exact List.mem_iff_getElem.2 ⟨j,by simp;omega,by simp⟩
  ·obtain⟨d,_,rfl⟩:=List.mem_map.1 he;rfl
theorem Yla {l:List Zi}{k:Nat}(hk:k<l.length):(Znx (esD l k) (Ztz (gr ZV l k))).getD (.bool false) = .bool (Zqw l k):=by
 cases hm:Zqw l k with
 | false=>rw[(Zhi hk).1 hm];rfl
 | true=>rw[(Zhi hk).2 hm];rfl
theorem VK {s:Ze}{k:Nat}(hk:k<s.dues.length)(hq:Zdi s k=false):Jw s=false:=by
 rw[Jw,List.all_eq_false];exact⟨k,List.mem_range.2 hk,by simp [hq]⟩
theorem Yam {s:Ze}(v:SV)(hs:Zo h v s)(few:Zv s)(hk:K (.bool (VJ s)) L h):Zb prog 62 [stV s v] L h K:=by
 obtain⟨pa,pc,ma,mc,ea,ec,xa,xc,oa,oc,da,dc,ta,tc,ka,kc,ra,rc,rfl⟩:=hs.slices;have ho:Zh Ua 4 h (.slice oa s.pool.length oc) s.pool:=hs.o;have hd:Zh YB 3 h (.slice da s.dues.length dc) s.dues:=hs.d;have fm:=few.m;have fo:=few.o;have fd:=few.d;unfold VJ at hk;refine ZS func62 rfl (rs:=[_]) rfl rfl ZX (by kernel_rfl) rfl rfl ?_;refine xx ?_;refine Z0 fun b1 nb1 zb1=>?_;(try simp only[ZT]at nb1);refine xx ?_;by_cases c0:s.pool.length≤256
 ·rw[decide_eq_true c0,Bool.true_and]at hk;refine xx ?_;refine Yu (0:Nat) (fun k=>k≤s.pool.length∧∀j,j<k→V4 s (gr Z4 s.pool j)=true) (fun k=>[(20,.int .i64 k),(19,.int .i64 s.pool.length),(18,.slice oa s.pool.length oc),(1,.pointer (some ⟨b1,0,none⟩))]) (fun _=>⟨b1,132,stC s ⟨.slice pa s.purses.length pc,.slice ma s.members.length mc,.slice ea s.entry.length ec,.slice xa s.exit.length xc,.slice oa s.pool.length oc,.slice da s.dues.length dc,.slice ta s.motions.length tc,.slice ka s.marks.length kc,.slice ra s.ring.length rc⟩,41⟩::L) (fun _=>h) (fun k=>s.pool.length-k) ?_ ?_ ?_ ?_
  ·exact⟨Nat.zero_le _,fun j hj=>by omega⟩
  ·simp [Ent,List.lookup,Y3]
  ·exact Za.refl _ _
  rintro k ⟨k1,k2⟩;by_cases c1:k<s.pool.length
  ·have hxo:=hs.oo (gr Z4 s.pool k) (by rw[Z9 c1];exact List.getElem_mem c1);simp -dsimp -implicitDefEqProofs (disch:=first|with_reducible assumption|omega) [go_sem,↓WQ Z4 (by decide) ho,Ua];refine Z0 fun b2 nb2 zb2=>?_;(try simp only[ZT]at nb2);simp -dsimp -implicitDefEqProofs (disch:=first|with_reducible assumption|omega) [go_sem,Ua];refine Ycp (gr Z4 s.pool k) hxo fun a' n' c'=>?_
   cases q1:Zbk (gr Z4 s.pool k) with
   | false =>
    rw[YC Z4 _ _ c1 (by simp only[V4,q1,Bool.false_and])]at hk;refine xx ?_;exact ZO (ZO (ZP (by simpa using hk)))
   | true =>
   refine xx ?_;refine VQ _ hs few _ ?_
   cases q2:Y1 s (gr Z4 s.pool k).acct with
   | false =>
    rw[YC Z4 _ _ c1 (by simp only[V4,q2,Bool.and_false,Bool.false_and])]at hk;refine xx ?_;exact ZO (ZO (ZP (by simpa using hk)))
   | true =>
   have next:V4 s (gr Z4 s.pool k)=true→∀j,j<k+1→V4 s (gr Z4 s.pool j)=true:=fun hq j hj=>by
    by_cases e:j=k
    ·subst e;exact hq
    ·exact k2 j (by omega)
   cases q3:(gr Z4 s.pool k).new with
   | true =>
    refine xx ?_;exact⟨k+1,⟨by omega,next (by simp only[V4,q1,q2,q3,Bool.true_and,Bool.true_or])⟩,by omega,by simp [Ent,List.lookup],Za.tail _ _ _⟩
   | false =>
    refine xx ?_;refine Je _ _ _ ?_
    cases q4:wi (gr Z4 s.pool k).mem 0 ((s.members.length:Int)-1) with
    | false =>
     rw[YC Z4 _ _ c1 (by simp only[V4,q3,q4,Bool.or_self,Bool.and_false])]at hk;refine xx ?_;exact ZO (ZO (ZP (by simpa using hk)))
    | true =>
     refine xx ?_;exact⟨k+1,⟨by omega,next (by simp only[V4,q1,q2,q3,q4,Bool.true_and,Bool.false_or])⟩,by omega,by simp [Ent,List.lookup],Za.tail _ _ _⟩
  ·have hkl:k=s.pool.length:=by omega
   subst hkl;rw[UK Z4 _ _ k2,Bool.true_and]at hk;refine xx ?_;refine Zvt fun bm n_bm h_bm=>?_;(try simp only[ZT]at n_bm);refine xx ?_;refine Yu (0:Nat) (fun k=>k≤s.dues.length∧∀j,j<k→Zdi s j=true) (fun k=>[(60,.int .i64 k),(59,.int .i64 s.dues.length),(58,.slice da s.dues.length dc),(7,.map (some bm)),(1,.pointer (some ⟨b1,0,none⟩))]) (fun k=>⟨bm,4294967295,Zub [.i64,.i64,.u64] (esD s.dues k),0⟩::⟨b1,132,stC s ⟨.slice pa s.purses.length pc,.slice ma s.members.length mc,.slice ea s.entry.length ec,.slice xa s.exit.length xc,.slice oa s.pool.length oc,.slice da s.dues.length dc,.slice ta s.motions.length tc,.slice ka s.marks.length kc,.slice ra s.ring.length rc⟩,41⟩::L) (fun _=>h) (fun k=>s.dues.length-k) ?_ ?_ ?_ ?_
   ·exact⟨Nat.zero_le _,fun j hj=>by omega⟩
   ·simp [Ent,List.lookup,Y3]
   ·exact Za.refl _ _
   rintro k ⟨k1,k2⟩;by_cases c1:k<s.dues.length
   ·have hxo:=hs.dd (gr ZV s.dues k) (by rw[Z9 c1];exact List.getElem_mem c1);have ua:=hxo.a;simp -dsimp -implicitDefEqProofs (disch:=first|with_reducible assumption|omega) [go_sem,↓WQ ZV (by decide) hd,YB];refine Z0 fun b9 nb9 zb9=>?_;(try simp only[ZT]at nb9);simp -dsimp -implicitDefEqProofs (disch:=first|with_reducible assumption|omega) [go_sem,YB];refine Z0 fun b10 nb10 zb10=>?_;(try simp only[ZT]at nb10);simp -dsimp -implicitDefEqProofs (disch:=first|with_reducible assumption|omega) [go_sem,YB];refine Uh (by kernel_rfl) rfl ?_;refine xx ?_;have key:Zdi s k=true→∀j,j<k+1→Zdi s j=true:=fun hq j hj=>by
     by_cases e:j=k
     ·subst e;exact hq
     ·exact k2 j (by omega)
    refine VE _ (VQ _ hs few _ ⟨rfl,rfl,rfl⟩) ?_
    cases q1:Y1 s (gr ZV s.dues k).acct with
    | false =>
     rw[VK c1 (by simp only[Zdi,VR,q1,Bool.and_false,Bool.false_and,Bool.not_true])]at hk;refine xx ?_;exact ZO (ZO (ZO (ZO (ZP hk))))
    | true =>
    refine xx ?_;refine VE _ (Je _ _ _ ⟨rfl,rfl,rfl⟩) ?_
    cases q2:wi (gr ZV s.dues k).at' 0 2147483647 with
    | false =>
     rw[VK c1 (by simp only[Zdi,VR,q2,Bool.and_false,Bool.false_and,Bool.not_true])]at hk;refine xx ?_;exact ZO (ZO (ZO (ZO (ZP hk))))
    | true =>
    by_cases q3:1≤(gr ZV s.dues k).amt
    ·by_cases q4:(gr ZV s.dues k).amt≤4611686018427387904
     ·refine xx ?_;refine Zxi (n:=Ztz (gr ZV s.dues k)) Zyq Zvr Yfa rfl (esD s.dues k) (Zmm _ _) (List.mem_cons_of_mem _ (List.mem_cons_of_mem _ List.mem_cons_self)) ?_;rw[Yla c1];simp only[Bool.false_eq_true,if_false]
      cases q5:Zqw s.dues k with
      | true =>
       rw[VK c1 (by simp only[Zdi,VR,q5,Bool.and_false,Bool.false_and,Bool.not_true])]at hk;refine xx ?_;exact ZO (ZO (ZO (ZO (ZP hk))))
      | false =>
      by_cases c2:k=0
      ·have q6:Zso s.dues k=true:=by simp [Zso,c2]
       have c3:¬(0<(k:Int)):=by omega
       refine xx ?_;refine Zix (n:=Ztz (gr ZV s.dues k)) Zyq Zvr rfl [_,_] _ (esD s.dues k) (Zmm _ _) ((Zhi c1).1 q5) ?_;rw[← Zpa c1];refine xx ?_;exact⟨k+1,⟨by omega,key (by simp only[Zdi,VR,q1,q2,q5,q6,decide_eq_true q3,decide_eq_true q4,Bool.and_self,Bool.not_false])⟩,by omega,by simp [Ent,List.lookup],Za.trans (Za.tail _ _ _) (Za.tail _ _ _)⟩
      ·have e1:((k:Int)-1).toNat=k-1:=by omega
       by_cases c4:(gr ZV s.dues (k-1)).at'≤(gr ZV s.dues k).at'
       ·have q6:Zso s.dues k=true:=by simp [Zso,c4]
        simp -dsimp -implicitDefEqProofs (disch:=first|with_reducible assumption|omega) [go_sem,↓WQ ZV (by decide) hd,e1];refine(Zh.fld ZV hd (j:=k-1) (o:=1) (by omega) (u:=.int .i64 (gr ZV s.dues (k-1)).at') rfl _ _ _).mpr ?_;refine xx ?_;refine Zix (n:=Ztz (gr ZV s.dues k)) Zyq Zvr rfl [_,_] _ (esD s.dues k) (Zmm _ _) ((Zhi c1).1 q5) ?_;rw[← Zpa c1];refine xx ?_;exact⟨k+1,⟨by omega,key (by simp only[Zdi,VR,q1,q2,q5,q6,decide_eq_true q3,decide_eq_true q4,Bool.and_self,Bool.not_false])⟩,by omega,by simp [Ent,List.lookup],Za.trans (Za.tail _ _ _) (Za.tail _ _ _)⟩
       ·have q6:Zso s.dues k=false:=by simp [Zso,c2,c4]
        simp -dsimp -implicitDefEqProofs (disch:=first|with_reducible assumption|omega) [go_sem,↓WQ ZV (by decide) hd,e1];refine(Zh.fld ZV hd (j:=k-1) (o:=1) (by omega) (u:=.int .i64 (gr ZV s.dues (k-1)).at') rfl _ _ _).mpr ?_;rw[VK c1 (by simp only[Zdi,VR,q6,Bool.and_false,Bool.false_and,Bool.not_true])]at hk;refine xx ?_;exact ZO (ZO (ZO (ZO (ZP hk))))
     ·have q4':=decide_eq_false q4;rw[VK c1 (by simp only[Zdi,VR,q4',Bool.and_false,Bool.false_and,Bool.not_true])]at hk;refine xx ?_;exact ZO (ZO (ZO (ZO (ZP hk))))
    ·have q3':=decide_eq_false q3;rw[VK c1 (by simp only[Zdi,VR,q3',Bool.and_false,Bool.false_and,Bool.not_true])]at hk;refine xx ?_;exact ZO (ZO (ZO (ZO (ZP hk))))
   ·have hkl:k=s.dues.length:=by omega
    subst hkl;have hq:Jw s=true:=by
     rw[Jw,List.all_eq_true];exact fun j hj=>k2 j (List.mem_range.1 hj)
    rw[hq]at hk;refine xx ?_;exact ZO (ZO (ZP hk))
 ·rw[decide_eq_false c0]at hk;refine xx ?_;exact ZO (ZP (by simpa using hk))
def Yb (s:Ze):Bool:=Yd s.par&&wi s.ep 0 1073741824&&wi s.calm 0 1073741824&&V2 s&&We s&&VJ s&&Vk s&&U8 s&&Wc s
theorem Vz {s:Ze}(v:SV)(hs:Zo h v s)(few:Zv s)(hk:K (.bool (Yb s)) L h):Zb prog 16 [stV s v] L h K:=by
 obtain⟨pa,pc,ma,mc,ea,ec,xa,xc,oa,oc,da,dc,ta,tc,ka,kc,ra,rc,rfl⟩:=hs.slices;refine ZS func16 rfl (rs:=[_]) rfl rfl ZX (by kernel_rfl) rfl rfl ?_;refine xx ?_;refine Z0 fun b1 nb1 zb1=>?_;(try simp only[ZT]at nb1);refine xx ?_;refine Z0 fun b2 nb2 zb2=>?_;(try simp only[ZT]at nb2);refine xx ?_;refine WY s.par hs.ok.p ?_
 cases q1:Yd s.par with
 | false =>
  simp only[Yb,q1,Bool.false_and]at hk;refine xx ?_;exact ZO (ZO (ZP hk))
 | true =>
 refine xx ?_;refine Je _ _ _ ?_
 cases q2:wi s.ep 0 1073741824 with
 | false =>
  simp only[Yb,q2,Bool.and_false,Bool.false_and]at hk;refine xx ?_;exact ZO (ZO (ZP hk))
 | true =>
 refine xx ?_;refine Je _ _ _ ?_
 cases q3:wi s.calm 0 1073741824 with
 | false =>
  simp only[Yb,q3,Bool.and_false,Bool.false_and]at hk;refine xx ?_;exact ZO (ZO (ZP hk))
 | true =>
 refine xx ?_;refine Zto (s:=s) ⟨.slice pa s.purses.length pc,.slice ma s.members.length mc,.slice ea s.entry.length ec,.slice xa s.exit.length xc,.slice oa s.pool.length oc,.slice da s.dues.length dc,.slice ta s.motions.length tc,.slice ka s.marks.length kc,.slice ra s.ring.length rc⟩ hs few ?_
 cases q4:V2 s with
 | false =>
  simp only[Yb,q4,Bool.and_false,Bool.false_and]at hk;refine xx ?_;exact ZO (ZO (ZP hk))
 | true =>
 refine xx ?_;refine Zlc (s:=s) ⟨.slice pa s.purses.length pc,.slice ma s.members.length mc,.slice ea s.entry.length ec,.slice xa s.exit.length xc,.slice oa s.pool.length oc,.slice da s.dues.length dc,.slice ta s.motions.length tc,.slice ka s.marks.length kc,.slice ra s.ring.length rc⟩ hs few q1 ?_
 cases q5:We s with
 | false =>
  simp only[Yb,q5,Bool.and_false,Bool.false_and]at hk;refine xx ?_;exact ZO (ZO (ZP hk))
 | true =>
 refine xx ?_;refine Yam (s:=s) ⟨.slice pa s.purses.length pc,.slice ma s.members.length mc,.slice ea s.entry.length ec,.slice xa s.exit.length xc,.slice oa s.pool.length oc,.slice da s.dues.length dc,.slice ta s.motions.length tc,.slice ka s.marks.length kc,.slice ra s.ring.length rc⟩ hs few ?_
 cases q6:VJ s with
 | false =>
  simp only[Yb,q6,Bool.and_false,Bool.false_and]at hk;refine xx ?_;exact ZO (ZO (ZP hk))
 | true =>
 refine xx ?_;refine Zne (s:=s) ⟨.slice pa s.purses.length pc,.slice ma s.members.length mc,.slice ea s.entry.length ec,.slice xa s.exit.length xc,.slice oa s.pool.length oc,.slice da s.dues.length dc,.slice ta s.motions.length tc,.slice ka s.marks.length kc,.slice ra s.ring.length rc⟩ hs few ?_
 cases q7:Vk s with
 | false =>
  simp only[Yb,q7,Bool.and_false,Bool.false_and]at hk;refine xx ?_;exact ZO (ZO (ZP hk))
 | true =>
 refine xx ?_;refine Zww (s:=s) ⟨.slice pa s.purses.length pc,.slice ma s.members.length mc,.slice ea s.entry.length ec,.slice xa s.exit.length xc,.slice oa s.pool.length oc,.slice da s.dues.length dc,.slice ta s.motions.length tc,.slice ka s.marks.length kc,.slice ra s.ring.length rc⟩ hs few ?_
 cases q8:U8 s with
 | false =>
  simp only[Yb,q8,Bool.and_false,Bool.false_and]at hk;refine xx ?_;exact ZO (ZO (ZP hk))
 | true =>
 simp only[Yb,q1,q2,q3,q4,q5,q6,q7,q8,Bool.and_self,Bool.true_and]at hk;refine xx ?_;refine Zyt (s:=s) ⟨.slice pa s.purses.length pc,.slice ma s.members.length mc,.slice ea s.entry.length ec,.slice xa s.exit.length xc,.slice oa s.pool.length oc,.slice da s.dues.length dc,.slice ta s.motions.length tc,.slice ka s.marks.length kc,.slice ra s.ring.length rc⟩ hs few ?_;refine xx ?_;exact ZO (ZO (ZP hk))
theorem VD (m:Zc)(hk:K (.bool (decide (m.status=2∨m.status=3))) L h):Zb prog 28 [Ztw m] L h K:=by
 refine ZS func28 rfl (rs:=[_]) rfl rfl ZX (by kernel_rfl) rfl rfl ?_;refine xx ?_;refine Z0 fun b1 nb1 zb1=>?_;(try simp only[ZT]at nb1);refine xx ?_;by_cases c:m.status=2
 ·refine xx ?_;exact ZO (ZP (by simpa [c] using hk))
 ·refine xx ?_;exact ZO (ZP (by simpa [c] using hk))
def Zks (s:Ze):Bool:=decide (s.purses.length≤100)&&decide (s.members.length≤200)&&decide (s.entry.length≤300)&&decide (s.exit.length≤300)&&decide (s.pool.length≤300)&&decide (s.dues.length≤200)&&decide (s.motions.length≤40)&&decide (s.ring.length≤20)&&decide (s.marks.length≤50)
def Zat (s:Ze):Bool:=Zks s&&s.ring.all (fun b=>decide (b.length≤50))&&s.motions.all (fun m=>decide (m.yes.length≤50)&&decide (m.no.length≤50))
theorem JY {s:Ze}(hf:Zks s=true):s.purses.length≤100∧s.members.length≤200∧s.entry.length≤300∧s.exit.length≤300∧s.pool.length≤300∧s.dues.length≤200∧s.motions.length≤40∧s.ring.length≤20∧s.marks.length≤50:=by
 simp only[Zks,Bool.and_eq_true,decide_eq_true_eq]at hf;omega
theorem Zbs {s:Ze}(hf:Zat s=true):Zks s=true:=by
 simp only[Zat,Bool.and_eq_true]at hf;exact hf.1.1
theorem Zbt {s:Ze}(v:SV)(hs:Zo h v s)(hk:K (.bool (Zat s)) L h):Zb prog 10 [stV s v] L h K:=by
 obtain⟨pa,pc,ma,mc,ea,ec,xa,xc,oa,oc,da,dc,ta,tc,ka,kc,ra,rc,rfl⟩:=hs.slices;have no:Zat s=false→K (.bool false) L h:=fun e=>by rwa [e]at hk
 refine ZS func10 rfl (rs:=[_]) rfl rfl ZX (by kernel_rfl) rfl rfl ?_;refine xx ?_;refine Z0 fun b1 nb1 zb1=>?_;(try simp only[ZT]at nb1);refine xx ?_;by_cases c1:100<s.purses.length
 ·have:=no (by simp only[Zat,Zks,decide_eq_false (p:=s.purses.length≤100) (by omega),Bool.false_and,Bool.and_false]);refine xx ?_;exact ZO (ZP this)
 by_cases c2:200<s.members.length
 ·have:=no (by simp only[Zat,Zks,decide_eq_false (p:=s.members.length≤200) (by omega),Bool.false_and,Bool.and_false]);refine xx ?_;exact ZO (ZP this)
 by_cases c3:300<s.entry.length
 ·have:=no (by simp only[Zat,Zks,decide_eq_false (p:=s.entry.length≤300) (by omega),Bool.false_and,Bool.and_false]);refine xx ?_;exact ZO (ZP this)
 by_cases c4:300<s.exit.length
 ·have:=no (by simp only[Zat,Zks,decide_eq_false (p:=s.exit.length≤300) (by omega),Bool.false_and,Bool.and_false]);refine xx ?_;exact ZO (ZP this)
 by_cases c5:300<s.pool.length
 ·have:=no (by simp only[Zat,Zks,decide_eq_false (p:=s.pool.length≤300) (by omega),Bool.false_and,Bool.and_false]);refine xx ?_;exact ZO (ZP this)
 by_cases c6:200<s.dues.length
 ·have:=no (by simp only[Zat,Zks,decide_eq_false (p:=s.dues.length≤200) (by omega),Bool.false_and,Bool.and_false]);refine xx ?_;exact ZO (ZP this)
 by_cases c7:40<s.motions.length
 ·have:=no (by simp only[Zat,Zks,decide_eq_false (p:=s.motions.length≤40) (by omega),Bool.false_and,Bool.and_false]);refine xx ?_;exact ZO (ZP this)
 by_cases c8:20<s.ring.length
 ·have:=no (by simp only[Zat,Zks,decide_eq_false (p:=s.ring.length≤20) (by omega),Bool.false_and,Bool.and_false]);refine xx ?_;exact ZO (ZP this)
 by_cases c9:50<s.marks.length
 ·have:=no (by simp only[Zat,Zks,decide_eq_false (p:=s.marks.length≤50) (by omega),Bool.false_and,Bool.and_false]);refine xx ?_;exact ZO (ZP this)
 have f9:Zks s=true:=by
  simp only[Zks,Bool.and_eq_true,decide_eq_true_eq];omega
 obtain⟨qr,hdr,tr⟩:=hs.r;have hqr:qr.length=s.ring.length:=by rw[← tr,WZ]
 simp only at hdr;obtain⟨_,_,hre,_,_,_,hcr,hdd⟩:=hdr.open;injection hre with hre1 hre2 hre3
 subst hre1;subst hre3;have hcr':∀j,j<s.ring.length→Z8 h ra j=some ((fun j=>(gs qr j).1) j):=fun j hj=>hcr j (by omega);have hgs:∀j,j<qr.length→gr [] s.ring j=(gs qr j).2:=fun j hj=>by
  rw[← tr,Z9 (by rw[WZ];exact hj),Zdb hj];simp [xsL]
 refine xx ?_;refine Yu (0:Nat) (fun k=>k≤s.ring.length∧∀j,j<k→(fun b:List Int=>decide (b.length≤50)) (gr [] s.ring j)=true) (fun k=>[(62,.int .i64 k),(61,.int .i64 s.ring.length),(60,.slice ra s.ring.length rc),(1,.pointer (some ⟨b1,0,none⟩))]) (fun _=>⟨b1,34,stC s ⟨.slice pa s.purses.length pc,.slice ma s.members.length mc,.slice ea s.entry.length ec,.slice xa s.exit.length xc,.slice oa s.pool.length oc,.slice da s.dues.length dc,.slice ta s.motions.length tc,.slice ka s.marks.length kc,.slice ra s.ring.length rc⟩,41⟩::L) (fun _=>h) (fun k=>s.ring.length-k) ?_ ?_ ?_ ?_
 ·exact⟨Nat.zero_le _,fun j hj=>by omega⟩
 ·simp [Ent,List.lookup,Y3]
 ·exact Za.refl _ _
 rintro k ⟨k1,k2⟩;by_cases d1:k<s.ring.length
 ·have hi:=hdd.at (i:=k) (by omega);obtain⟨x1,y1,hv1,_⟩:=hi.open;have hg:=hgs k (by omega);simp -dsimp -implicitDefEqProofs (disch:=first|with_reducible assumption|omega) [go_sem,idx hcr',hv1];by_cases d2:50<(gs qr k).2.length
  ·have:=no (by simp only[Zat,YC [] (fun b:List Int=>decide (b.length≤50)) s.ring d1 (by rw[hg];exact decide_eq_false (by omega)),Bool.false_and,Bool.and_false]);refine xx ?_;exact ZO (ZP this)
  ·refine xx ?_;refine⟨k+1,⟨by omega,fun j hj=>?_⟩,by omega,by simp [Ent,List.lookup],Za.refl _ _⟩;by_cases e:j=k
   ·subst e;rw[hg];first|omega|exact decide_eq_true (by omega)
   ·first|exact k2 j (by omega)|simpa using k2 j (by omega)
 have hkl:k=s.ring.length:=by omega
 subst hkl;have rall:=UK [] (fun b:List Int=>decide (b.length≤50)) s.ring k2;clear k2 d1 k1;obtain⟨q,hd,t2,t3⟩:=hs.t;have hql:q.length=s.motions.length:=by rw[← t2,List.length_map]
 have hgr:∀k,k<q.length→gr Z5 s.motions k=(gr Z2 q k).2.2:=fun k hk=>by
  rw[Z9 hk,Z9 (by omega)];simp only[← t2,List.getElem_map]
 simp only at hd;refine xx ?_;refine Yu (0:Nat) (fun k=>k≤s.motions.length∧∀j,j<k→(fun m:Zl=>decide (m.yes.length≤50)&&decide (m.no.length≤50)) (gr Z5 s.motions j)=true) (fun k=>[(73,.int .i64 k),(72,.int .i64 s.motions.length),(71,.slice ta s.motions.length tc),(1,.pointer (some ⟨b1,0,none⟩))]) (fun _=>⟨b1,34,stC s ⟨.slice pa s.purses.length pc,.slice ma s.members.length mc,.slice ea s.entry.length ec,.slice xa s.exit.length xc,.slice oa s.pool.length oc,.slice da s.dues.length dc,.slice ta s.motions.length tc,.slice ka s.marks.length kc,.slice ra s.ring.length rc⟩,41⟩::L) (fun _=>h) (fun k=>s.motions.length-k) ?_ ?_ ?_ ?_
 ·exact⟨Nat.zero_le _,fun j hj=>by omega⟩
 ·simp [Ent,List.lookup,Y3]
 ·exact Za.refl _ _
 rintro k ⟨k1,k2⟩;by_cases d1:k<s.motions.length
 ·have hx:Zs h (gr Z2 q k):=by rw[Z9 (by omega)];exact t3 _ (List.getElem_mem (by omega))
  have hg:=hgr k (by omega);obtain⟨x1,y1,hv1,_⟩:=hx.y.open;obtain⟨x2,y2,hv2,_⟩:=hx.n.open;simp -dsimp -implicitDefEqProofs (disch:=first|with_reducible assumption|omega) [go_sem,↓WQ Z2 (by decide) hd,Wk];refine Z0 fun b2 nb2 zb2=>?_;(try simp only[ZT]at nb2);simp -dsimp -implicitDefEqProofs (disch:=first|with_reducible assumption|omega) [go_sem,Wk,hv1,hv2];by_cases d2:50<(gr Z2 q k).2.2.yes.length
  ·have:=no (by simp only[Zat,YC Z5 (fun m:Zl=>decide (m.yes.length≤50)&&decide (m.no.length≤50)) s.motions d1 (by rw[hg];simp;omega),Bool.and_false]);refine xx ?_;exact ZO (ZO (ZP this))
  by_cases d3:50<(gr Z2 q k).2.2.no.length
  ·have:=no (by simp only[Zat,YC Z5 (fun m:Zl=>decide (m.yes.length≤50)&&decide (m.no.length≤50)) s.motions d1 (by rw[hg];simp;omega),Bool.and_false]);refine xx ?_;exact ZO (ZO (ZP this))
  refine xx ?_;refine⟨k+1,⟨by omega,fun j hj=>?_⟩,by omega,by simp [Ent,List.lookup],Za.tail _ _ _⟩;by_cases e:j=k
  ·subst e;rw[hg];first|omega|(simp;omega)
  ·first|exact k2 j (by omega)|simpa using k2 j (by omega)
 ·have hkl:k=s.motions.length:=by omega
  subst hkl;have tall:=UK Z5 (fun m:Zl=>decide (m.yes.length≤50)&&decide (m.no.length≤50)) s.motions k2;have yes:Zat s=true:=by simp only[Zat,f9,rall,tall,Bool.and_self]
  rw[yes]at hk;refine xx ?_;exact ZO (ZP hk)
theorem Zqm {h:PH}{v:Value}{n:Nat}(sl:Sl h v n 1 (List.replicate n (.int .u8 0))):Ints h .u8 v (List.replicate n 0) :=
 ⟨by simpa [List.map_replicate] using sl,fun z hz=>by rw[List.eq_of_mem_replicate hz];decide⟩
open Go.RowKit
section
variable {P:Program} {L:Own} {h:PH} {E:Env} {K:PK} {l:Nat} {rec:LoopState→Option Code→Obj}
@[go_sem ↓] theorem Ydr:Zwl l rec K .normal E L h=Yni K true l (rec .ready none) L h:=rfl
@[go_sem ↓] theorem Yns (p:Tmp)(ps:List Tmp)(v:Value)(vs:List Value):Zdc (p::ps) (v::vs) E=Zdc ps vs ((p,v)::E):=rfl
@[go_sem ↓] theorem Yxk (vs:List Value):Zdc [] vs E=E:=by cases vs<;>rfl
theorem Yal {v:Bool}{o:Obj}{L':Own}{h':PH}(hd:Za L h L' h')(hk:K (.bool v) (Zlh l o::L') h'):Yni K v l o L h:=⟨L',h',hd,hk⟩
end
theorem Yye {P:Program}(hm:P.follows .mixedOrders=true){l D fn:Nat}{tmps:Array Value}{ps:List Tmp}{assign body:Code}{E:Env}{args:List Value}{L:Own}{h:PH}{K:PK}
  (he:∀i v,E.lookup i=some v→tmps.getD i undef=v) (hp:(ps.toArray.all fun p=>decide (p<tmps.size))=true) (ha:wfC tmps.size assign=true) (hb:wfC tmps.size body=true)
  (na:Ub assign=true) (nb:Ub body=true) (hl:ps.length=args.length)
  (hx:xC P assign (thn (xC P body (Zwl l (G4 fn tmps ps.toArray assign body D) K)) fun _ _ _ _=>False) (Zdc ps args E) L h) :
  YSpec P l args (Zlh l (G4 fn tmps ps.toArray assign body D .ready none)::L) h K:=by
 refine Znh hm he hp ha hb na nb (by simpa using hl) ?_;have key:∀Q1 Q2:GB,Q1=Q2→xC P assign Q2 (Zdc ps args E) L h→xC P assign Q1 (Zdc ps args E) L h:=fun _ _ e hx=>e ▸ hx;refine key _ _ ?_ hx
 funext e E1 L1 h1
 cases e<;>rfl
theorem YSpec.apn {P:Program}{l:Nat}{args:List Value}{L:Own}{h:PH}{K:PK}(hs:YSpec P l args L h fun v L' h'=>Ap L' h'→Nd L'→K v L' h'):YSpec P l args L h K :=
 ⟨trivial,fun W hg=>by
  obtain⟨fn,tmps,assign,body,hy,hR⟩:=hs.2 W hg
  exact⟨fn,tmps,assign,body,hy,hR.mono fun _ _ ⟨r,L',h',e,k,st⟩=>⟨r,L',h',e,k (Ap.of st.1.apart) (Nd.of st.1.nodup),st⟩⟩⟩
theorem Ap.app {h:PH}:∀ {A B:Own},Ap (A++B) h→Ap A h∧Ap B h
 | [],_,hb=>⟨trivial,hb⟩
 | _::_,_,ha=>⟨⟨ha.1,(Ap.app ha.2).1⟩,(Ap.app ha.2).2⟩
theorem Zia {A B:Own}:(B++A).Perm (A++B):=List.perm_append_comm
@[go_sem ↓] theorem Yng {Q:GB}{E:Env}{L:Own}{h:PH}:Yjk Q E L h none=Q .normal E L h:=rfl
theorem Yrn {P:Program}{gf:Nat}{lb:Array Value}{ps:Array Tmp}{assign body:Code}{Q:GB}{E:Env}{L:Own}{h:PH}(hc:Uz P gf)
  (hs:∀(l D fn:Nat) (tmps:Array Value),(∀i v,E.lookup i=some v→tmps.getD i undef=v)→(ps.all fun p=>decide (p<tmps.size))=true→wfC tmps.size assign=true→wfC tmps.size body=true→ZT l L→h l=noC →
   Zb P gf (.func (.yield l) #[] #[]::lb.toList) (Zlh l (G4 fn tmps ps assign body D .ready none)::L) h fun _ L' h' =>
    ∃st jump L1,L'=Zlh l (G4 fn tmps ps assign body D st jump)::L1∧st ≠ .busy∧Yjk Q E L1 h' jump):Zvs P (.func (.func gf) #[] lb) ps assign body Q E L h :=
 ⟨gf,lb,rfl,hc,hs⟩
theorem Zop {e sz:Nat}(o:Option (Nat×Nat))(xs:List Value)(A B:Own):oent e sz o xs A++B=oent e sz o xs (A++B):=by
 cases o<;>rfl
theorem Zdt {b:Nat}:∀ {A B:Own},ZT b (A++B)→ZT b A
 | [],_,_=>trivial
 | _::_,_,h=>⟨h.1,Zdt h.2⟩
theorem Yfh {o:Option (Nat×Nat)}{A B:Own}{h:PH}(ha:apO o (A++B) h):apO o A h:=by
 cases o with
 | none=>trivial
 | some p=>exact⟨Zdt ha.1,ha.2⟩
theorem Yr {b e sz:Nat}{o:Option (Nat×Nat)}{xs:List Value}{L:Own}(ha:ZT b (oent e sz o xs L)):ZT b L:=by
 cases o with
 | none=>exact ha
 | some p=>exact ha.2
theorem Vi {h:PH}{o:Option (Nat×Nat)}{xs:List Value}{b:Nat}(hb:apB o b)(hh:h b=noC):JV h o xs b=noC:=by
 cases o with
 | none=>exact hh
 | some p =>
  have:p.1≠b:=hb
  funext i
  simp only[JV,pub,if_neg (Ne.symm this),hh]
end Go.X
