/- Lemmas and contracts. Conditions: as each says. -/
import Derived.Test.YtpdidilobgimcaaGreatQ14
import Derived.Test.YtpdidilobgimcaaGreatQ15
set_option linter.unusedVariables false
set_option linter.unusedSimpArgs false
set_option maxHeartbeats 12800000
set_option maxRecDepth 20000
namespace Go.X
open Go.RowKit Go.Proofs Go.Bl Go.Proofs.Tryz
variable {L:Own} {h:PH} {K:PK}
theorem UP {α:Type}(z:α)(q:α→Bool)(l:List α)(hq:∀j,j<l.length→q (gr z l j)=true):l.all q=true:=by
 rw[List.all_eq_true];intro x hx;obtain⟨j,hj,rfl⟩:=List.mem_iff_getElem.1 hx;have:=hq j hj
 rwa [Z7 hj]at this
theorem YB {α:Type}(z:α)(q:α→Bool)(l:List α){k:Nat}(hk:k<l.length)(hq:q (gr z l k)=false):l.all q=false:=by
 rw[List.all_eq_false];rw[Z7 hk]at hq;exact⟨l[k],List.getElem_mem hk,by simp [hq]⟩
theorem Yhb (q:Int→Bool)(l:List Int)(hq:∀j,j<l.length→q (at0 l j)=true):l.all q=true:=UP 0 q l hq
theorem Zen (q:Int→Bool)(l:List Int){k:Nat}(hk:k<l.length)(hq:q (at0 l k)=false):l.all q=false:=YB 0 q l hk hq
theorem Zn.slices {v:SV}{s:Ze}(hs:Zn h v s):∃pa pc ma mc ea ec xa xc oa oc da dc ta tc ka kc ra rc,
  v=⟨.slice pa s.purses.length pc,.slice ma s.members.length mc,.slice ea s.entry.length ec,.slice xa s.exit.length xc,.slice oa s.pool.length oc,.slice da s.dues.length dc,.slice ta s.motions.length tc,.slice ka s.marks.length kc,.slice ra s.ring.length rc⟩:=by
 obtain⟨pa,pc,hp,_⟩:=hs.p.open;obtain⟨ma,mc,hm,_⟩:=hs.m.open;obtain⟨ea,ec,he,_⟩:=hs.e.open;obtain⟨xa,xc,hx,_⟩:=hs.x.open;obtain⟨oa,oc,ho,_⟩:=hs.o.open;obtain⟨da,dc,hd,_⟩:=hs.d.open;obtain⟨q,t1,t2,_⟩:=hs.t;obtain⟨ta,tc,ht,_⟩:=t1.open;obtain⟨ka,kc,hk,_⟩:=hs.k.open;obtain⟨r,r1,r2⟩:=hs.r;obtain⟨ra,rc,hr,_⟩:=r1.open;refine⟨pa,pc,ma,mc,ea,ec,xa,xc,oa,oc,da,dc,ta,tc,ka,kc,ra,rc,?_⟩;rw[← t2,← r2,List.length_map,W6];obtain⟨vp,vm,ve,vx,vo,vd,vt,vk,vr⟩:=v;simp only at hp hm he hx ho hd ht hk hr;subst hp hm he hx ho hd ht hk hr
 rfl
theorem U3 (n lo hi:Int)(hk:K (.bool (wi n lo hi)) L h):Zb prog 60 [.int .i64 n,.int .i64 lo,.int .i64 hi] L h K:=by
 unfold wi at hk;refine ZS func60 rfl (rs:=[_]) rfl rfl ZY (by kernel_rfl) rfl rfl ?_;refine xx ?_;by_cases c:lo≤n
 ·refine xx ?_;exact ZP (by simpa [c] using hk)
 ·refine xx ?_;exact ZP (by simpa [c] using hk)
theorem JK (n lo hi:Int)(hk:K (.bool (wi n lo hi)) L h):Zb prog 288 [.int .i64 n,.int .i64 lo,.int .i64 hi] L h K:=by
 unfold wi at hk;refine ZS func288 rfl (rs:=[_]) rfl rfl ZY (by kernel_rfl) rfl rfl ?_;refine xx ?_;by_cases c:lo≤n
 ·refine xx ?_;exact ZP (by simpa [c] using hk)
 ·refine xx ?_;exact ZP (by simpa [c] using hk)
theorem Zmw (n lo hi:Int)(hk:K (.bool (wi n lo hi)) L h):Zb prog 287 [.int .i64 n,.int .i64 lo,.int .i64 hi] L h K:=by
 unfold wi at hk;refine ZS func287 rfl (rs:=[_]) rfl rfl ZY (by kernel_rfl) rfl rfl ?_;refine xx ?_;by_cases c:lo≤n
 ·refine xx ?_;exact ZP (by simpa [c] using hk)
 ·refine xx ?_;exact ZP (by simpa [c] using hk)
def Y6 (s:Ze)(i:Int):Bool:=wi i 0 ((s.purses.length:Int)-1)
theorem VT {s:Ze}(v:SV)(hs:Zn h v s)(few:Zw s)(i:Int)(hk:K (.bool (Y6 s i)) L h):Zb prog 172 [stV s v,.int .i64 i] L h K:=by
 obtain⟨pa,pc,hp,_⟩:=hs.p.open;have fp:=few.p;unfold Y6 at hk;refine ZS func172 rfl (rs:=[_]) rfl rfl ZY (by kernel_rfl) rfl rfl ?_;refine xx ?_;refine Z0 fun b1 nb1 zb1=>?_;(try simp only[ZT]at nb1);simp -dsimp -implicitDefEqProofs (disch:=first|with_reducible assumption|omega) [go_sem,hp];refine U3 _ _ _ ?_;refine xx ?_;exact ZO (ZP hk)
def VS (s:Ze):Bool:=wi s.purses.length 1 64&&s.purses.all fun z=>decide (z≤4611686018427387904)
theorem Zsx {s:Ze}(v:SV)(hs:Zn h v s)(few:Zw s)(hk:K (.bool (VS s)) L h):Zb prog 61 [stV s v] L h K:=by
 have hw:=hs.p.word;obtain⟨pa,pc,hp,hc,hl,_,hcs⟩:=hs.p.open;have fp:=few.p;unfold VS at hk;refine ZS func61 rfl (rs:=[_]) rfl rfl ZY (by kernel_rfl) rfl rfl ?_;refine xx ?_;refine Z0 fun b1 nb1 zb1=>?_;(try simp only[ZT]at nb1);simp -dsimp -implicitDefEqProofs (disch:=first|with_reducible assumption|omega) [go_sem,hp];refine U3 _ _ _ ?_
 cases hq:wi s.purses.length 1 64 with
 | false =>
  rw[hq]at hk;refine xx ?_;exact ZO (ZP (by simpa using hk))
 | true =>
  rw[hq,Bool.true_and]at hk;simp -dsimp -implicitDefEqProofs (disch:=first|with_reducible assumption|omega) [go_sem,hp];refine Yq (0:Nat) (fun k=>k≤s.purses.length∧∀j,j<k→at0 s.purses j≤4611686018427387904) (fun k=>[(15,.int .i64 k),(14,.int .i64 s.purses.length),(13,.slice pa s.purses.length pc)]) (fun _=>L) (fun _=>h) (fun k=>s.purses.length-k) ?_ ?_ ?_ ?_
  ·exact⟨Nat.zero_le _,fun j hj=>by omega⟩
  ·simp [Ent,List.lookup,Y5,hp]
  ·exact Za.tail _ _ _
  rintro k ⟨k1,k2⟩;have hwk:=hw k;by_cases c1:k<s.purses.length
  ·by_cases c2:at0 s.purses k≤4611686018427387904
   ·simp -dsimp -implicitDefEqProofs (disch:=first|with_reducible assumption|omega) [go_sem,idx hcs];refine⟨k+1,⟨by omega,fun j hj=>?_⟩,by omega,by simp [Ent,List.lookup],Za.refl _ _⟩;by_cases e:j=k
    ·subst e;exact c2
    ·exact k2 j (by omega)
   ·rw[Zen _ _ c1 (decide_eq_false c2)]at hk;simp -dsimp -implicitDefEqProofs (disch:=first|with_reducible assumption|omega) [go_sem,idx hcs];exact ZP hk
  ·rw[Yhb _ _ (fun j hj=>decide_eq_true (k2 j (by omega)))]at hk;refine xx ?_;exact ZP hk
theorem Zis {zs:List Int}(v:Value)(x:Int)(hz:Ints h .i64 v zs)(hx : -9223372036854775808≤x∧x≤9223372036854775807)(hk:∀i:Int,-1≤i→i≤9223372036854775807→(0≤i↔x∈zs)→K (.int .i64 i) L h):Zb prog 340 [v,.int .i64 x] L h K:=by
 have hn:=hz.num;obtain⟨a,c,rfl,hcap,hl,_,hcs⟩:=hz.open;refine ZS func340 rfl (rs:=[_]) rfl rfl ZY (by kernel_rfl) rfl rfl ?_;refine xx ?_;refine Wj (0:Nat) (fun k=>k≤zs.length∧∀j,j<k→at0 zs j≠x) (fun k=>[(8,.int .i64 k),(7,.int .i64 zs.length),(0,.slice a zs.length c),(1,.int .i64 x)]) (fun k=>zs.length-k) ?_ ?_ ?_
 ·exact⟨Nat.zero_le _,fun j hj=>by omega⟩
 ·simp [Ent,List.lookup,Y5]
 rintro k ⟨k1,k2⟩;by_cases c1:k<zs.length
 ·by_cases c2:x=at0 zs k
  ·simp -dsimp -implicitDefEqProofs (disch:=first|with_reducible assumption|omega) [go_sem,idx hcs];refine ZP (hk k (by omega) (by omega) ⟨fun _=>?_,fun _=>by omega⟩);rw[c2,← Yf c1];exact List.getElem_mem c1
  ·simp -dsimp -implicitDefEqProofs (disch:=first|with_reducible assumption|omega) [go_sem,idx hcs];refine⟨k+1,⟨by omega,fun j hj=>?_⟩,by omega,by simp [Ent,List.lookup],Za.refl _ _⟩;by_cases e:j=k
   ·subst e;exact fun e=>c2 e.symm
   ·exact k2 j (by omega)
 ·refine xx ?_;refine ZP (hk (-1) (by omega) (by omega) ⟨fun hh=>by omega,fun hm=>?_⟩);obtain⟨j,hj,e⟩:=List.mem_iff_getElem.1 hm;exact absurd (by rw[← Yf hj,e]) (k2 j (by omega))
theorem Zja {zs:List Int}(v:Value)(x:Int)(hz:Ints h .i64 v zs)(hx : -9223372036854775808≤x∧x≤9223372036854775807)(hk:K (.bool (decide (x∈zs))) L h):Zb prog 269 [v,.int .i64 x] L h K:=by
 have hz':=hz;obtain⟨a,c,rfl,hcap,hl,_,hcs⟩:=hz.open;refine ZS func269 rfl (rs:=[_]) rfl rfl ZY (by kernel_rfl) rfl rfl ?_;refine xx ?_;refine Zis _ x hz' hx fun i i1 i2 i3=>?_;refine xx ?_;have:decide (0≤i)=decide (x∈zs):=by simp only[i3]
 refine ZP ?_;rw[this];exact hk
def Zpk (l:List Zc)(st:Int):Nat→Nat
 | 0=>0
 | k+1=>Zpk l st k+if (gr ZR l k).status=st then 1 else 0
theorem Zwk (l:List Zc)(st:Int):∀k,Zpk l st k≤k
 | 0=>Nat.le_refl _
 | k+1=>by have:=Zwk l st k;simp only[Zpk];split<;>omega
def Ygu (s:Ze)(l:List Int)(st:Int):Bool:=(List.range s.members.length).all fun j => !decide ((gr ZR s.members j).status=st)||decide ((j:Int)∈l)
def Zdr (s:Ze)(l:List Int)(st:Int):Bool:=Ygu s l st&&decide (l.length=Zpk s.members st s.members.length)
theorem Zav {s:Ze}{l:List Int}{st:Int}(hq:∀j,j<s.members.length→(gr ZR s.members j).status=st→(j:Int)∈l):Ygu s l st=true:=by
 rw[Ygu,List.all_eq_true];intro j hj;by_cases e:(gr ZR s.members j).status=st
 ·simp [e,hq j (List.mem_range.1 hj) e]
 ·simp [e]
theorem Zsi {s:Ze}{l:List Int}{st:Int}{k:Nat}(hk:k<s.members.length)(e:(gr ZR s.members k).status=st)(hn:(k:Int) ∉ l):Ygu s l st=false:=by
 rw[Ygu,List.all_eq_false];exact⟨k,List.mem_range.2 hk,by simp [e,hn]⟩
theorem Yaq {s:Ze}(v:SV)(hs:Zn h v s)(few:Zw s){l:List Int}(lv:Value)(hlv:Ints h .i64 lv l)(st:Int)(hst : -9223372036854775808≤st∧st≤9223372036854775807)(hk:K (.bool (Zdr s l st)) L h):Zb prog 173 [stV s v,lv,.int .i64 st] L h K:=by
 obtain⟨ma,mc,hm,hmc,hml,_,hd⟩:=hs.m.open;have fm:=few.m;have hlv':=hlv;obtain⟨la,lc,rfl,hlc,hll,_,hcs⟩:=hlv.open;refine ZS func173 rfl (rs:=[_]) rfl rfl ZY (by kernel_rfl) rfl rfl ?_;refine xx ?_;refine Z0 fun b1 nb1 zb1=>?_;(try simp only[ZT]at nb1);simp -dsimp -implicitDefEqProofs (disch:=first|with_reducible assumption|omega) [go_sem,hm];refine Yq (0:Nat) (fun k=>k≤s.members.length∧∀j,j<k→(gr ZR s.members j).status=st→(j:Int)∈l) (fun k=>[(14,.int .i64 k),(13,.int .i64 s.members.length),(12,.slice ma s.members.length mc),(7,.int .i64 (Zpk s.members st k)),(1,.slice la l.length lc),(2,.int .i64 st)]) (fun _=>L) (fun _=>h) (fun k=>s.members.length-k) ?_ ?_ ?_ ?_
 ·exact⟨Nat.zero_le _,fun j hj=>by omega⟩
 ·simp [Ent,List.lookup,Y5,hm,Zpk]
 ·exact Za.tail _ _ _
 rintro k ⟨k1,k2⟩;have hcl:=Zwk s.members st k;by_cases c1:k<s.members.length
 ·have hxo:=hs.mo (gr ZR s.members k) (by rw[Z7 c1];exact List.getElem_mem c1);simp -dsimp -implicitDefEqProofs (disch:=first|with_reducible assumption|omega) [go_sem,↓WV ZR (by decide) hd,Ym];refine Z0 fun b2 nb2 zb2=>?_;(try simp only[ZT]at nb2);by_cases c2:(gr ZR s.members k).status=st
  ·simp -dsimp -implicitDefEqProofs (disch:=first|with_reducible assumption|omega) [go_sem,Ym];refine Zja _ k hlv' ⟨by omega,by omega⟩ ?_;by_cases c3:(k:Int)∈l
   ·rw[decide_eq_true c3];refine xx ?_;refine⟨k+1,⟨by omega,fun j hj=>?_⟩,by omega,by simp [Ent,List.lookup,Zpk,c2],Za.tail _ _ _⟩;by_cases e:j=k
    ·subst e;exact fun _=>c3
    ·exact k2 j (by omega)
   ·rw[Zdr,Zsi c1 c2 c3]at hk;rw[decide_eq_false c3];refine xx ?_;exact ZO (ZP hk)
  ·simp -dsimp -implicitDefEqProofs (disch:=first|with_reducible assumption|omega) [go_sem,Ym];refine⟨k+1,⟨by omega,fun j hj=>?_⟩,by omega,by simp [Ent,List.lookup,Zpk,c2],Za.tail _ _ _⟩;by_cases e:j=k
   ·subst e;exact fun e=>absurd e c2
   ·exact k2 j (by omega)
 ·have hkl:k=s.members.length:=by omega
  subst hkl;rw[Zdr,Zav k2,Bool.true_and]at hk;refine xx ?_;refine ZP ?_;have e:decide ((l.length:Int)=(Zpk s.members st s.members.length:Nat))=decide (l.length=Zpk s.members st s.members.length):=by simp only[Int.natCast_inj]
  first
   | exact hk
   | (rw[e];exact hk)
def We (s:Ze):Bool:=decide (s.members.length≤128)&&s.members.all (fun m=>YY s.par m&&Y6 s m.owner)&&Zdr s s.entry 1&&Zdr s s.exit 3
theorem Zkv {s:Ze}(v:SV)(hs:Zn h v s)(few:Zw s)(hr:Yl s.par=true)(hk:K (.bool (We s)) L h):Zb prog 62 [stV s v] L h K:=by
 obtain⟨pa,pc,ma,mc,ea,ec,xa,xc,oa,oc,da,dc,ta,tc,ka,kc,ra,rc,rfl⟩:=hs.slices;have hd:Zg Ym 6 h (.slice ma s.members.length mc) s.members:=hs.m;have fm:=few.m;unfold We at hk;refine ZS func62 rfl (rs:=[_]) rfl rfl ZY (by kernel_rfl) rfl rfl ?_;refine xx ?_;refine Z0 fun b1 nb1 zb1=>?_;(try simp only[ZT]at nb1);refine xx ?_;by_cases c0:s.members.length≤128
 ·rw[decide_eq_true c0,Bool.true_and]at hk;refine xx ?_;refine Yq (0:Nat) (fun k=>k≤s.members.length∧∀j,j<k→(fun m:Zc=>YY s.par m&&Y6 s m.owner) (gr ZR s.members j)=true) (fun k=>[(14,.int .i64 k),(13,.int .i64 s.members.length),(12,.slice ma s.members.length mc),(1,.pointer (some ⟨b1,0,none⟩))]) (fun _=>⟨b1,127,stC s ⟨.slice pa s.purses.length pc,.slice ma s.members.length mc,.slice ea s.entry.length ec,.slice xa s.exit.length xc,.slice oa s.pool.length oc,.slice da s.dues.length dc,.slice ta s.motions.length tc,.slice ka s.marks.length kc,.slice ra s.ring.length rc⟩,41⟩::L) (fun _=>h) (fun k=>s.members.length-k) ?_ ?_ ?_ ?_
  ·exact⟨Nat.zero_le _,fun j hj=>by omega⟩
  ·simp [Ent,List.lookup,Y5]
  ·exact Za.refl _ _
  rintro k ⟨k1,k2⟩;by_cases c1:k<s.members.length
  ·have hxo:=hs.mo (gr ZR s.members k) (by rw[Z7 c1];exact List.getElem_mem c1);simp -dsimp -implicitDefEqProofs (disch:=first|with_reducible assumption|omega) [go_sem,↓WV ZR (by decide) hd,Ym];refine Z0 fun b2 nb2 zb2=>?_;(try simp only[ZT]at nb2);simp -dsimp -implicitDefEqProofs (disch:=first|with_reducible assumption|omega) [go_sem,Ym];refine Zym s.par hs.ok.p (gr ZR s.members k) hxo ?_;rw[hr,Bool.true_and]
   cases hq:YY s.par (gr ZR s.members k) with
   | false =>
    rw[YB ZR _ _ c1 (by rw[hq];rfl)]at hk;refine xx ?_;exact ZO (ZO (ZP (by simpa using hk)))
   | true =>
    refine xx ?_;refine VT _ hs few _ ?_
    cases hq2:Y6 s (gr ZR s.members k).owner with
    | false =>
     rw[YB ZR _ _ c1 (by rw[hq,hq2];rfl)]at hk;refine xx ?_;exact ZO (ZO (ZP (by simpa using hk)))
    | true =>
     refine xx ?_;refine⟨k+1,⟨by omega,fun j hj=>?_⟩,by omega,by simp [Ent,List.lookup],Za.tail _ _ _⟩;by_cases e:j=k
     ·subst e;first|exact⟨hq,hq2⟩ | (simp only[hq,hq2];rfl)|simp [hq,hq2]
     ·first|exact k2 j (by omega)|simpa using k2 j (by omega)
  ·have hkl:k=s.members.length:=by omega
   subst hkl;rw[UP ZR _ _ k2,Bool.true_and]at hk;refine xx ?_;refine Yaq _ hs few _ hs.e 1 (by decide) ?_
   cases hq:Zdr s s.entry 1 with
   | false =>
    rw[hq]at hk;refine xx ?_;exact ZO (ZP (by simpa using hk))
   | true =>
    rw[hq]at hk;refine xx ?_;refine Yaq _ hs few _ hs.x 3 (by decide) ?_;refine xx ?_;exact ZO (ZP (by simpa using hk))
 ·rw[decide_eq_false c0]at hk;refine xx ?_;exact ZO (ZP (by simpa using hk))
def Ypo:List IntKind:=[.u64,.u64,.u64,.u64,.u64,.u64,.u64,.u64,.u64,.u64,.u64,.u64,.u64,.u64,.i64,.i64,.i64,.i64,.i64,.i64,.i64,.i64,.i64,.i64]
abbrev motV (m:Zl)(y n:Value):Value := .agg #[.int .i64 m.acct,.int .i64 m.what,.int .u64 m.par.inc,.int .u64 m.par.maxEff,.int .u64 m.par.floor,.int .u64 m.par.cap,.int .u64 m.par.up,.int .u64 m.par.down,.int .u64 m.par.bias,.int .u64 m.par.quot,.int .u64 m.par.biasEm,.int .u64 m.par.quotEm,.int .u64 m.par.recover,.int .u64 m.par.scoreCap,.int .u64 m.par.rate,.int .u64 m.par.bond,.int .i64 m.par.delay,.int .i64 m.par.streak,.int .i64 m.par.boost,.int .i64 m.par.absent,.int .i64 m.par.burn,.int .i64 m.par.churn,.int .i64 m.par.wait,.int .i64 m.par.poll,.int .i64 m.par.enact,.int .i64 m.par.quorum,.int .i64 m.to,.int .u64 m.amt,.int .i64 m.ends,.int .i64 m.due,.int .i64 m.state,y,n]
def YJ (m:Zl):Bool:=wi m.acct 0 63&&wi m.to 0 63&&wi m.what 1 4&&wi m.state 1 4
def WF (m:Zl):Bool:=wi m.ends 0 2147483647&&wi m.due 0 2147483647&&decide (m.amt≤4611686018427387904)
def WQ (m:Zl):Bool:=YJ m&&WF m&&JX m.yes 128&&JX m.no 128&&(if m.what=1 then Yl m.par else decide (m.par=Zgo))
theorem Yie (p q:Zd):decide (Yy p++Yo p=Yy q++Yo q)=decide (p=q):=by
 apply decide_eq_decide.2
 constructor
 ·intro e;simp only[Yy,Yo,List.cons_append,List.nil_append,List.cons.injEq,and_true]at e
  cases p;cases q;simp only at e;simp only[Zd.mk.injEq];exact e
 ·rintro rfl;rfl
theorem Yhj (p q:Zd)(x y:Operand)(K:Value→Prop)(t:Zo K):VW prog .eql 24 x y (Vp p) (Vp q) K t=K (.bool (decide (p=q))):=by
 rw[← Yie];exact Uz (T:=24) (ks:=Ypo) (by kernel_rfl) (by kernel_rfl) (by kernel_rfl) (by kernel_rfl) (Yy p++Yo p) (Yy q++Yo q) rfl rfl x y K t
theorem Zkr (m:Zl)(y n:Value)(hy:Ints h .u8 y m.yes)(hn:Ints h .u8 n m.no)(ok:Wgb m)(hk:K (.bool (WQ m)) L h):Zb prog 175 [motV m y n] L h K:=by
 have hy':=hy;have hn':=hn;obtain⟨ya,yc,rfl,_⟩:=hy.open;obtain⟨na,nc,rfl,_⟩:=hn.open;have ua:=ok.a;unfold WQ at hk;refine ZS func175 rfl (rs:=[_]) rfl rfl ZY (by kernel_rfl) rfl rfl ?_;refine xx ?_;refine Z0 fun b1 nb1 zb1=>?_;(try simp only[ZT]at nb1);refine xx ?_;have no1:∀X:Bool,YJ m=false→K (.bool (YJ m&&X)) L h→K (.bool false) L h:=fun X e k=>by rwa [e]at k
 refine JK _ _ _ ?_
 cases q1:wi m.acct 0 63 with
 | false =>
  rw[show YJ m=false by simp [YJ,q1]]at hk;refine xx ?_;exact ZO (ZP (by simpa using hk))
 | true =>
 refine xx ?_;refine JK _ _ _ ?_
 cases q2:wi m.to 0 63 with
 | false =>
  rw[show YJ m=false by simp [YJ,q2]]at hk;refine xx ?_;exact ZO (ZP (by simpa using hk))
 | true =>
 refine xx ?_;refine JK _ _ _ ?_
 cases q3:wi m.what 1 4 with
 | false =>
  rw[show YJ m=false by simp [YJ,q3]]at hk;refine xx ?_;exact ZO (ZP (by simpa using hk))
 | true =>
 refine xx ?_;refine JK _ _ _ ?_
 cases q4:wi m.state 1 4 with
 | false =>
  rw[show YJ m=false by simp [YJ,q4]]at hk;refine xx ?_;exact ZO (ZP (by simpa using hk))
 | true =>
 rw[show YJ m=true by simp [YJ,q1,q2,q3,q4],Bool.true_and]at hk;refine xx ?_;refine JK _ _ _ ?_
 cases q5:wi m.ends 0 2147483647 with
 | false =>
  rw[show WF m=false by simp [WF,q5]]at hk;refine xx ?_;exact ZO (ZP (by simpa using hk))
 | true =>
 refine xx ?_;refine JK _ _ _ ?_
 cases q6:wi m.due 0 2147483647 with
 | false =>
  rw[show WF m=false by simp [WF,q6]]at hk;refine xx ?_;exact ZO (ZP (by simpa using hk))
 | true =>
 by_cases q7:m.amt≤4611686018427387904
 ·rw[show WF m=true by simp [WF,q5,q6,q7],Bool.true_and]at hk;refine xx ?_;refine Zfk _ 128 hy' (by decide) (by decide) ?_
  cases q8:JX m.yes 128 with
  | false =>
   rw[q8]at hk;refine xx ?_;exact ZO (ZP (by simpa using hk))
  | true =>
  rw[q8,Bool.true_and]at hk;refine xx ?_;refine Zfk _ 128 hn' (by decide) (by decide) ?_
  cases q9:JX m.no 128 with
  | false =>
   rw[q9]at hk;refine xx ?_;exact ZO (ZP (by simpa using hk))
  | true =>
  rw[q9,Bool.true_and]at hk;by_cases c:m.what=1
  ·rw[if_pos c]at hk;refine xx ?_;refine W9 m.par ok.p ?_
   cases hr:Yl m.par with
   | false =>
    rw[hr]at hk;refine xx ?_;exact ZO (ZP hk)
   | true =>
    rw[hr]at hk;refine xx ?_;exact ZO (ZP hk)
  ·rw[if_neg c]at hk;refine xx ?_;refine(Yhj m.par Zgo _ _ _ _).mpr ?_;refine xx ?_;exact ZO (ZP hk)
 ·rw[show WF m=false by simp [WF,q7]]at hk;refine xx ?_;exact ZO (ZP (by simpa using hk))
def Vd (s:Ze):Bool:=decide (s.motions.length≤32)&&s.motions.all (fun m=>WQ m&&Y6 s m.acct&&Y6 s m.to)
theorem Zkp {s:Ze}(v:SV)(hs:Zn h v s)(few:Zw s)(hk:K (.bool (Vd s)) L h):Zb prog 64 [stV s v] L h K:=by
 obtain⟨pa,pc,ma,mc,ea,ec,xa,xc,oa,oc,da,dc,ta,tc,ka,kc,ra,rc,rfl⟩:=hs.slices;obtain⟨q,hd,t2,t3⟩:=hs.t;have fm:=few.t;have hql:q.length=s.motions.length:=by rw[← t2,List.length_map]
 have hgr:∀k,k<q.length→gr Z5 s.motions k=(gr Z2 q k).2.2:=fun k hk=>by
  rw[Z7 hk,Z7 (by omega)];simp only[← t2,List.getElem_map]
 unfold Vd at hk;refine ZS func64 rfl (rs:=[_]) rfl rfl ZY (by kernel_rfl) rfl rfl ?_;refine xx ?_;refine Z0 fun b1 nb1 zb1=>?_;(try simp only[ZT]at nb1);refine xx ?_;by_cases c0:s.motions.length≤32
 ·rw[decide_eq_true c0,Bool.true_and]at hk;refine xx ?_;refine Yq (0:Nat) (fun k=>k≤s.motions.length∧∀j,j<k→(fun m:Zl=>WQ m&&Y6 s m.acct&&Y6 s m.to) (gr Z5 s.motions j)=true) (fun k=>[(14,.int .i64 k),(13,.int .i64 s.motions.length),(12,.slice ta s.motions.length tc),(1,.pointer (some ⟨b1,0,none⟩))]) (fun _=>⟨b1,127,stC s ⟨.slice pa s.purses.length pc,.slice ma s.members.length mc,.slice ea s.entry.length ec,.slice xa s.exit.length xc,.slice oa s.pool.length oc,.slice da s.dues.length dc,.slice ta s.motions.length tc,.slice ka s.marks.length kc,.slice ra s.ring.length rc⟩,41⟩::L) (fun _=>h) (fun k=>s.motions.length-k) ?_ ?_ ?_ ?_
  ·exact⟨Nat.zero_le _,fun j hj=>by omega⟩
  ·simp [Ent,List.lookup,Y5]
  ·exact Za.refl _ _
  rintro k ⟨k1,k2⟩;by_cases c1:k<s.motions.length
  ·have hx:Zs h (gr Z2 q k):=by rw[Z7 (by omega)];exact t3 _ (List.getElem_mem (by omega))
   have hg:=hgr k (by omega);obtain⟨x1,y1,hv1,_⟩:=hx.y.open;obtain⟨x2,y2,hv2,_⟩:=hx.n.open;simp -dsimp -implicitDefEqProofs (disch:=first|with_reducible assumption|omega) [go_sem,↓WV Z2 (by decide) hd,Wb];refine Z0 fun b2 nb2 zb2=>?_;(try simp only[ZT]at nb2);simp -dsimp -implicitDefEqProofs (disch:=first|with_reducible assumption|omega) [go_sem,Wb,hv1,hv2];have m1:=hx.y;have m2:=hx.n;rw[hv1]at m1;rw[hv2]at m2;refine Zkr (gr Z2 q k).2.2 _ _ m1 m2 hx.ok ?_
   cases hq:WQ (gr Z2 q k).2.2 with
   | false =>
    rw[YB Z5 _ _ c1 (by rw[hg,hq];rfl)]at hk;refine xx ?_;exact ZO (ZO (ZP (by simpa using hk)))
   | true =>
   refine xx ?_;refine VT _ hs few _ ?_
   cases hq2:Y6 s (gr Z2 q k).2.2.acct with
   | false =>
    rw[YB Z5 _ _ c1 (by rw[hg,hq,hq2];rfl)]at hk;refine xx ?_;exact ZO (ZO (ZP (by simpa using hk)))
   | true =>
   refine xx ?_;refine VT _ hs few _ ?_
   cases hq3:Y6 s (gr Z2 q k).2.2.to with
   | false =>
    rw[YB Z5 _ _ c1 (by rw[hg,hq,hq2,hq3];rfl)]at hk;refine xx ?_;exact ZO (ZO (ZP (by simpa using hk)))
   | true =>
   refine xx ?_;refine⟨k+1,⟨by omega,fun j hj=>?_⟩,by omega,by simp [Ent,List.lookup],Za.tail _ _ _⟩;by_cases e:j=k
   ·subst e;first|exact⟨⟨hq,hq2⟩,hq3⟩ | simp [hg,hq,hq2,hq3]
   ·first|exact k2 j (by omega)|simpa using k2 j (by omega)
  ·have hkl:k=s.motions.length:=by omega
   subst hkl;rw[UP Z5 _ _ k2]at hk;refine xx ?_;exact ZO (ZP hk)
 ·rw[decide_eq_false c0]at hk;refine xx ?_;exact ZO (ZP (by simpa using hk))
theorem GU {bs:List Int}(v:Value)(hb:Ints h .u8 v bs)(hk:K (.bool (JX bs 128)) L h):Zb prog 289 [v] L h K:=by
 have hb':=hb;obtain⟨a,c,rfl,_⟩:=hb.open;refine ZS func289 rfl (rs:=[_]) rfl rfl ZY (by kernel_rfl) rfl rfl ?_;refine xx ?_;refine Zfk _ 128 hb' (by decide) (by decide) ?_
 cases hc:JX bs 128 with
 | false =>
  rw[hc]at hk;refine xx ?_;exact ZP hk
 | true =>
  rw[hc]at hk;refine xx ?_;exact ZP hk
def Zdm (ring:List (List Int))(marks:List Int):Bool:=decide (ring.length≤8)&&JX marks 128&&ring.all (fun b=>JX b 128)
theorem Zxb {l:List QS}{bs:List Int}(v u:Value)(hv:Zx h v l)(hu:Ints h .u8 u bs)(hn:l.length≤100000)(hk:K (.int .i64 (if Zdm (xsL l) bs then 0 else 60)) L h):Zb prog 176 [v,u] L h K:=by
 have hu':=hu;obtain⟨a,c,rfl,hc,hl,_,hcx,hd⟩:=hv.open;obtain⟨b,c',rfl,_⟩:=hu.open;unfold Zdm at hk;rw[W6]at hk;refine ZS func176 rfl (rs:=[_]) rfl rfl ZY (by kernel_rfl) rfl rfl ?_;refine xx ?_;by_cases c0:l.length≤8
 ·rw[decide_eq_true c0,Bool.true_and]at hk;refine xx ?_;refine GU _ hu' ?_
  cases h1:JX bs 128 with
  | false =>
   rw[h1]at hk;refine xx ?_;exact ZP (by simpa using hk)
  | true =>
  rw[h1,Bool.true_and]at hk;refine xx ?_;refine Wj (0:Nat) (fun k=>k≤l.length∧∀j,j<k→JX (gs l j).2 128=true) (fun k=>[(17,.int .i64 k),(16,.int .i64 l.length),(15,.slice a l.length c)]) (fun k=>l.length-k) ?_ ?_ ?_
  ·exact⟨Nat.zero_le _,fun j hj=>by omega⟩
  ·simp [Ent,List.lookup,Y5]
  rintro k ⟨k1,k2⟩;have hgs:∀j,j<l.length→gr [] (xsL l) j=(gs l j).2:=fun j hj=>by
   rw[Z7 (by rw[W6];exact hj),GQ hj];simp [xsL]
  by_cases c1:k<l.length
  ·have hi:=hd.at c1;have hi':=hi;obtain⟨x1,y1,hv1,_⟩:=hi.open;simp -dsimp -implicitDefEqProofs (disch:=first|with_reducible assumption|omega) [go_sem,idx hcx,hv1];rw[hv1]at hi';refine GU _ hi' ?_
   cases h2:JX (gs l k).2 128 with
   | false =>
    rw[YB [] _ _ (k:=k) (by rw[W6];exact c1) (by rw[hgs k c1,h2])]at hk;refine xx ?_;exact ZP (by simpa using hk)
   | true =>
    refine xx ?_;refine⟨k+1,⟨by omega,fun j hj=>?_⟩,by omega,by simp [Ent,List.lookup],Za.refl _ _⟩;by_cases e:j=k
    ·subst e;exact h2
    ·exact k2 j (by omega)
  ·rw[UP [] _ _ (fun j hj=>by rw[W6]at hj;rw[hgs j hj];exact k2 j (by omega))]at hk;refine xx ?_;exact ZP (by simpa using hk)
 ·rw[decide_eq_false c0]at hk;refine xx ?_;exact ZP (by simpa using hk)
def UQ (s:Ze):Bool:=Zdm s.ring s.marks&&(List.range 128).all fun i=>decide (i<s.members.length) || !WU s.marks i
theorem Zxk {s:Ze}(v:SV)(hs:Zn h v s)(few:Zw s)(hk:K (.bool (UQ s)) L h):Zb prog 65 [stV s v] L h K:=by
 obtain⟨pa,pc,ma,mc,ea,ec,xa,xc,oa,oc,da,dc,ta,tc,ka,kc,ra,rc,rfl⟩:=hs.slices;obtain⟨q,hd,t2⟩:=hs.r;have fm:=few.m;have fr:=few.r;have hql:q.length=s.ring.length:=by rw[← t2,W6]
 have hkk:=hs.k;simp only at hd hkk;unfold UQ at hk;refine ZS func65 rfl (rs:=[_]) rfl rfl ZY (by kernel_rfl) rfl rfl ?_;refine xx ?_;refine Z0 fun b1 nb1 zb1=>?_;(try simp only[ZT]at nb1);refine xx ?_;refine Zxb _ _ hd hkk (by omega) ?_;rw[t2]
 cases h1:Zdm s.ring s.marks with
 | false =>
  rw[h1]at hk;refine xx ?_;exact ZO (ZP (by simpa using hk))
 | true =>
 rw[h1,Bool.true_and]at hk;refine xx ?_;refine Yq s.members.length (fun k=>s.members.length≤k∧k≤100000∧∀j,s.members.length≤j→j<k→WU s.marks (j:Int)=false) (fun k=>[(3,.int .i64 k),(1,.pointer (some ⟨b1,0,none⟩))]) (fun _=>⟨b1,127,stC s ⟨.slice pa s.purses.length pc,.slice ma s.members.length mc,.slice ea s.entry.length ec,.slice xa s.exit.length xc,.slice oa s.pool.length oc,.slice da s.dues.length dc,.slice ta s.motions.length tc,.slice ka s.marks.length kc,.slice ra s.ring.length rc⟩,41⟩::L) (fun _=>h) (fun k=>100000-k) ?_ ?_ ?_ ?_
 ·exact⟨Nat.le_refl _,fm,fun j hj=>by omega⟩
 ·simp [Ent,List.lookup,Y5]
 ·exact Za.refl _ _
 rintro k ⟨k0,k1,k2⟩;by_cases c1:k<128
 ·refine xx ?_;refine GH _ k hkk (by omega) ?_
  cases h2:WU s.marks (k:Int) with
  | true =>
   have:((List.range 128).all fun i=>decide (i<s.members.length) || !WU s.marks i)=false:=by
    rw[List.all_eq_false];exact⟨k,List.mem_range.2 c1,by simp [h2];omega⟩
   rw[this]at hk;refine xx ?_;exact ZO (ZP hk)
  | false =>
   refine xx ?_;refine⟨k+1,⟨by omega,by omega,fun j hj hj2=>?_⟩,by omega,by simp [Ent,List.lookup],Za.refl _ _⟩;by_cases e:j=k
   ·subst e;exact h2
   ·exact k2 j hj (by omega)
 ·have:((List.range 128).all fun i=>decide (i<s.members.length) || !WU s.marks i)=true:=by
   rw[List.all_eq_true];intro i hi;have:=List.mem_range.1 hi;by_cases e:i<s.members.length
   ·simp [e]
   ·simp [k2 i (by omega) (by omega)]
  rw[this]at hk;refine xx ?_;exact ZO (ZP hk)
abbrev depV (d:Zk):Value := .agg #[.int .i64 d.acct,.int .i64 d.mem,.int .u64 d.amt,.bool d.new]
def Zbn (d:Zk):Bool:=wi d.acct 0 63&&wi d.mem 0 127 && !(d.new&&decide (d.mem≠0))&&decide (1≤d.amt)&&decide (d.amt≤4611686018427387904)
theorem V5 (hk:K (.slice none 0 0) L h):Zb prog 82 [.slice none 0 0] L h K:=by
 refine ZS func82 rfl (rs:=[_]) rfl rfl ZY (by kernel_rfl) rfl rfl ?_;refine xx ?_;exact ZP hk
theorem Ycm (d:Zk)(ok:ZI d)(hk:∀a n c,K (.tuple #[.slice a n c,.int .i64 (if Zbn d then 0 else 2)]) L h):Zb prog 174 [.slice none 0 0,depV d] L h K:=by
 have ua:=ok.a;refine ZS func174 rfl (rs:=[_,_]) rfl rfl ZY (by kernel_rfl) rfl rfl ?_;refine xx ?_;refine Z0 fun b1 nb1 zb1=>?_;(try simp only[ZT]at nb1);refine xx ?_;refine Zmw _ _ _ ?_
 cases q1:wi d.acct 0 63 with
 | false =>
  simp only[Zbn,q1,Bool.false_and,Bool.false_eq_true,if_false]at hk;refine xx ?_;exact ZO (ZP (hk none 0 0))
 | true =>
 refine xx ?_;refine Zmw _ _ _ ?_
 cases q2:wi d.mem 0 127 with
 | false =>
  simp only[Zbn,q2,Bool.and_false,Bool.false_and,Bool.false_eq_true,if_false]at hk;refine xx ?_;exact ZO (ZP (hk none 0 0))
 | true =>
 have fin1:(d.new&&decide (d.mem≠0))=true→Zbn d=false:=fun e=>by simp only[Zbn,e,Bool.not_true,Bool.and_false,Bool.false_and]
 have rest:(d.new&&decide (d.mem≠0))=false→Zbn d=(decide (1≤d.amt)&&decide (d.amt≤4611686018427387904)):=fun e=>by simp only[Zbn,e,q1,q2,Bool.not_false,Bool.true_and]
 cases q3:d.new with
 | true =>
  have q3':=q3;by_cases q4:d.mem=0
  ·rw[rest (by simp [q4])]at hk;by_cases q5:1≤d.amt
   ·by_cases q6:d.amt≤4611686018427387904
    ·rw[decide_eq_true q5,decide_eq_true q6]at hk;refine xx ?_;refine Yi (.tk 0 (.tkl 2 (.o1 1 (.o1 3 (.o1 4 (.tk 5 (.tk 6 (.fin))) (.nil)) (.nil)) (.o1 3 (.o1 1 (.o1 4 (.tk 5 (.tk 6 (.fin))) (.nil)) (.nil)) (.nil))))) (by kernel_rfl) (by kernel_rfl) _ (Za.refl _ _) ?_;refine xx ?_;refine YP ?_ ?_
     ·refine xx ?_;refine V5 ?_;refine xkp (Za.refl _ _) ?_;refine xx ?_;refine Z0 fun b2 nb2 zb2=>?_;(try simp only[ZT]at nb2);refine xkp (Za.tail _ _ _) ?_;refine xx ?_;refine Z3 (t:=28) (e:=153) (sz:=4) (bytes:=32) (by kernel_rfl) Zeu rfl rfl rfl rfl (by decide) [_] _ none 0 [] rfl rfl (Src.own (b:=b2) List.mem_cons_self) (m:=1) (news:=[.int .i64 d.acct,.int .i64 d.mem,.int .u64 d.amt,.bool true]) rfl (by intro u hu;simp only[List.mem_cons,List.not_mem_nil,or_false]at hu;rcases hu with rfl|rfl|rfl|rfl<;>rfl) (by decide) (by decide) ?_;intro o' j1 j2 j3;have ho:=Yd j1;obtain⟨a',c',e',_⟩:=ho;rw[e'];refine xx ?_;refine xkp (Za.trans (Za.tail _ _ _) (Za.oent _ _ _ _ _ _)) ?_;refine xx ?_;exact ZO (Wy (ZO (ZP (hk _ _ _))))
     ·refine xx ?_;refine Z0 fun b2 nb2 zb2=>?_;(try simp only[ZT]at nb2);refine xkp (Za.tail _ _ _) ?_;refine xx ?_;refine V5 ?_;refine xkp (Za.tail _ _ _) ?_;refine xx ?_;refine Z3 (t:=28) (e:=153) (sz:=4) (bytes:=32) (by kernel_rfl) Zeu rfl rfl rfl rfl (by decide) [_] _ none 0 [] rfl rfl (Src.own (b:=b2) List.mem_cons_self) (m:=1) (news:=[.int .i64 d.acct,.int .i64 d.mem,.int .u64 d.amt,.bool true]) rfl (by intro u hu;simp only[List.mem_cons,List.not_mem_nil,or_false]at hu;rcases hu with rfl|rfl|rfl|rfl<;>rfl) (by decide) (by decide) ?_;intro o' j1 j2 j3;have ho:=Yd j1;obtain⟨a',c',e',_⟩:=ho;rw[e'];refine xx ?_;refine xkp (Za.trans (Za.tail _ _ _) (Za.oent _ _ _ _ _ _)) ?_;refine xx ?_;exact ZO (Wy (ZO (ZP (hk _ _ _))))
    ·simp only[decide_eq_false q6,Bool.and_false,Bool.false_eq_true,if_false]at hk;refine xx ?_;exact ZO (ZP (hk none 0 0))
   ·simp only[decide_eq_false q5,Bool.false_and,Bool.false_eq_true,if_false]at hk;refine xx ?_;exact ZO (ZP (hk none 0 0))
  ·rw[fin1 (by simp [q3,q4])]at hk;refine xx ?_;exact ZO (ZP (hk none 0 0))
 | false =>
  rw[rest (by simp [q3])]at hk;by_cases q5:1≤d.amt
  ·by_cases q6:d.amt≤4611686018427387904
   ·rw[decide_eq_true q5,decide_eq_true q6]at hk;refine xx ?_;refine Yi (.tk 0 (.tkl 2 (.o1 1 (.o1 3 (.o1 4 (.tk 5 (.tk 6 (.fin))) (.nil)) (.nil)) (.o1 3 (.o1 1 (.o1 4 (.tk 5 (.tk 6 (.fin))) (.nil)) (.nil)) (.nil))))) (by kernel_rfl) (by kernel_rfl) _ (Za.refl _ _) ?_;refine xx ?_;refine YP ?_ ?_
    ·refine xx ?_;refine V5 ?_;refine xkp (Za.refl _ _) ?_;refine xx ?_;refine Z0 fun b2 nb2 zb2=>?_;(try simp only[ZT]at nb2);refine xkp (Za.tail _ _ _) ?_;refine xx ?_;refine Z3 (t:=28) (e:=153) (sz:=4) (bytes:=32) (by kernel_rfl) Zeu rfl rfl rfl rfl (by decide) [_] _ none 0 [] rfl rfl (Src.own (b:=b2) List.mem_cons_self) (m:=1) (news:=[.int .i64 d.acct,.int .i64 d.mem,.int .u64 d.amt,.bool false]) rfl (by intro u hu;simp only[List.mem_cons,List.not_mem_nil,or_false]at hu;rcases hu with rfl|rfl|rfl|rfl<;>rfl) (by decide) (by decide) ?_;intro o' j1 j2 j3;have ho:=Yd j1;obtain⟨a',c',e',_⟩:=ho;rw[e'];refine xx ?_;refine xkp (Za.trans (Za.tail _ _ _) (Za.oent _ _ _ _ _ _)) ?_;refine xx ?_;exact ZO (Wy (ZO (ZP (hk _ _ _))))
    ·refine xx ?_;refine Z0 fun b2 nb2 zb2=>?_;(try simp only[ZT]at nb2);refine xkp (Za.tail _ _ _) ?_;refine xx ?_;refine V5 ?_;refine xkp (Za.tail _ _ _) ?_;refine xx ?_;refine Z3 (t:=28) (e:=153) (sz:=4) (bytes:=32) (by kernel_rfl) Zeu rfl rfl rfl rfl (by decide) [_] _ none 0 [] rfl rfl (Src.own (b:=b2) List.mem_cons_self) (m:=1) (news:=[.int .i64 d.acct,.int .i64 d.mem,.int .u64 d.amt,.bool false]) rfl (by intro u hu;simp only[List.mem_cons,List.not_mem_nil,or_false]at hu;rcases hu with rfl|rfl|rfl|rfl<;>rfl) (by decide) (by decide) ?_;intro o' j1 j2 j3;have ho:=Yd j1;obtain⟨a',c',e',_⟩:=ho;rw[e'];refine xx ?_;refine xkp (Za.trans (Za.tail _ _ _) (Za.oent _ _ _ _ _ _)) ?_;refine xx ?_;exact ZO (Wy (ZO (ZP (hk _ _ _))))
   ·simp only[decide_eq_false q6,Bool.and_false,Bool.false_eq_true,if_false]at hk;refine xx ?_;exact ZO (ZP (hk none 0 0))
  ·simp only[decide_eq_false q5,Bool.false_and,Bool.false_eq_true,if_false]at hk;refine xx ?_;exact ZO (ZP (hk none 0 0))
def Ua (s:Ze)(d:Zk):Bool:=Zbn d&&Y6 s d.acct&&(d.new||wi d.mem 0 ((s.members.length:Int)-1))
def VY (s:Ze)(d:Zi):Bool:=Y6 s d.acct&&wi d.at' 0 2147483647&&decide (1≤d.amt)&&decide (d.amt≤4611686018427387904)
def Zri (l:List Zi)(k:Nat):Bool:=(List.range k).any fun j=>decide ((gr ZW l k).acct=(gr ZW l j).acct)&&decide ((gr ZW l k).at'=(gr ZW l j).at')
def Zsp (l:List Zi)(k:Nat):Bool:=decide (k=0)||decide ((gr ZW l (k-1)).at'≤(gr ZW l k).at')
def Zdc (s:Ze)(k:Nat):Bool:=VY s (gr ZW s.dues k) && !Zri s.dues k&&Zsp s.dues k
def JA (s:Ze):Bool:=(List.range s.dues.length).all (Zdc s)
def VB (s:Ze):Bool:=decide (s.pool.length≤256)&&s.pool.all (Ua s)&&JA s
theorem Zzq:prog.underlying 235=some (.map 156 4):=by kernel_rfl
theorem Zuq:Wgf prog 156 [.i64,.i64,.u64]:=⟨by kernel_rfl,by kernel_rfl,by kernel_rfl⟩
theorem Yco (W:World):(zeroValue 4:Sem Value).run prog W = .ok (.bool false) W:=by kernel_rfl
def Ztr (d:Zi):List Int:=[d.acct,d.at',0]
def esD (l:List Zi)(k:Nat):List (List Int×Value):=(l.take k).map fun d=>(Ztr d,.bool true)
theorem Zpb {l:List Zi}{k:Nat}(hk:k<l.length):esD l (k+1)=esD l k++[(Ztr (gr ZW l k),.bool true)]:=by
 rw[Z7 hk,esD,esD,List.take_succ_eq_append_getElem hk,List.map_append];rfl
theorem Zlw (l:List Zi)(k:Nat):∀e∈esD l k,e.1.length=3:=fun e he=>by
 obtain⟨d,_,rfl⟩:=List.mem_map.1 he;rfl
theorem Zxm {es:List (List Int×Value)}{n:List Int}(h:∀e∈es,e.1≠n):Zqa es n=none:=by
 induction es with
 | nil=>rfl
 | cons e es ih=>rw[Zqa,if_neg (fun c=>h e (by simp) c.symm)];exact ih fun x hx=>h x (by simp [hx])
theorem Yaa {es:List (List Int×Value)}{n:List Int}{v:Value}(h:∃e∈es,e.1=n)(hv:∀e∈es,e.2=v):Zqa es n=some v:=by
 induction es with
 | nil=>obtain⟨e,he,_⟩:=h;cases he
 | cons e es ih =>
  rw[Zqa];split
  ·rw[hv e (by simp)]
  ·rename_i c;refine ih ?_ fun x hx=>hv x (by simp [hx]);obtain⟨x,hx,hxe⟩:=h;rcases List.mem_cons.1 hx with rfl|hx
   ·exact absurd hxe.symm c
   ·exact⟨x,hx,hxe⟩
theorem keyD_eq {a b:Zi}:Ztr a=Ztr b↔a.acct=b.acct∧a.at'=b.at':=by simp [Ztr]
theorem Zfv {l:List Zi}{k:Nat}(hk:k<l.length):(Zri l k=false→Zqa (esD l k) (Ztr (gr ZW l k))=none)∧(Zri l k=true→Zqa (esD l k) (Ztr (gr ZW l k))=some (.bool true)):=by
 constructor
 ·intro hm;rw[Zri,List.any_eq_false]at hm;refine Zxm fun e he hc=>?_;obtain⟨d,hd,rfl⟩:=List.mem_map.1 he;obtain⟨j,hj,rfl⟩:=List.mem_iff_getElem.1 hd;simp only[List.length_take]at hj;have:=hm j (List.mem_range.2 (by omega));rw[List.getElem_take]at hc;have hc':=keyD_eq.1 hc;rw[Z7 (l:=l) (i:=j) (by omega)]at this;simp [hc'.1,hc'.2]at this
 ·intro hm;rw[Zri,List.any_eq_true]at hm;obtain⟨j,hj,hq⟩:=hm;have hj':=List.mem_range.1 hj;simp only[Bool.and_eq_true,decide_eq_true_eq]at hq;refine Yaa ⟨(Ztr (gr ZW l j),.bool true),?_,keyD_eq.2 ⟨hq.1.symm,hq.2.symm⟩⟩ fun e he=>?_
  ·refine List.mem_map.2 ⟨gr ZW l j,?_,rfl⟩;rw[Z7 (by omega)];exact List.mem_iff_getElem.2 ⟨j,by simp;omega,by simp⟩
  ·obtain⟨d,_,rfl⟩:=List.mem_map.1 he;rfl
theorem Yjq {l:List Zi}{k:Nat}(hk:k<l.length):(Zqa (esD l k) (Ztr (gr ZW l k))).getD (.bool false) = .bool (Zri l k):=by
 cases hm:Zri l k with
 | false=>rw[(Zfv hk).1 hm];rfl
 | true=>rw[(Zfv hk).2 hm];rfl
theorem VI {s:Ze}{k:Nat}(hk:k<s.dues.length)(hq:Zdc s k=false):JA s=false:=by
 rw[JA,List.all_eq_false];exact⟨k,List.mem_range.2 hk,by simp [hq]⟩
theorem Zys {s:Ze}(v:SV)(hs:Zn h v s)(few:Zw s)(hk:K (.bool (VB s)) L h):Zb prog 63 [stV s v] L h K:=by
 obtain⟨pa,pc,ma,mc,ea,ec,xa,xc,oa,oc,da,dc,ta,tc,ka,kc,ra,rc,rfl⟩:=hs.slices;have ho:Zg V1 4 h (.slice oa s.pool.length oc) s.pool:=hs.o;have hd:Zg YA 3 h (.slice da s.dues.length dc) s.dues:=hs.d;have fm:=few.m;have fo:=few.o;have fd:=few.d;unfold VB at hk;refine ZS func63 rfl (rs:=[_]) rfl rfl ZY (by kernel_rfl) rfl rfl ?_;refine xx ?_;refine Z0 fun b1 nb1 zb1=>?_;(try simp only[ZT]at nb1);refine xx ?_;by_cases c0:s.pool.length≤256
 ·rw[decide_eq_true c0,Bool.true_and]at hk;refine xx ?_;refine Yq (0:Nat) (fun k=>k≤s.pool.length∧∀j,j<k→Ua s (gr Z4 s.pool j)=true) (fun k=>[(20,.int .i64 k),(19,.int .i64 s.pool.length),(18,.slice oa s.pool.length oc),(1,.pointer (some ⟨b1,0,none⟩))]) (fun _=>⟨b1,127,stC s ⟨.slice pa s.purses.length pc,.slice ma s.members.length mc,.slice ea s.entry.length ec,.slice xa s.exit.length xc,.slice oa s.pool.length oc,.slice da s.dues.length dc,.slice ta s.motions.length tc,.slice ka s.marks.length kc,.slice ra s.ring.length rc⟩,41⟩::L) (fun _=>h) (fun k=>s.pool.length-k) ?_ ?_ ?_ ?_
  ·exact⟨Nat.zero_le _,fun j hj=>by omega⟩
  ·simp [Ent,List.lookup,Y5]
  ·exact Za.refl _ _
  rintro k ⟨k1,k2⟩;by_cases c1:k<s.pool.length
  ·have hxo:=hs.oo (gr Z4 s.pool k) (by rw[Z7 c1];exact List.getElem_mem c1);simp -dsimp -implicitDefEqProofs (disch:=first|with_reducible assumption|omega) [go_sem,↓WV Z4 (by decide) ho,V1];refine Z0 fun b2 nb2 zb2=>?_;(try simp only[ZT]at nb2);simp -dsimp -implicitDefEqProofs (disch:=first|with_reducible assumption|omega) [go_sem,V1];refine Ycm (gr Z4 s.pool k) hxo fun a' n' c'=>?_
   cases q1:Zbn (gr Z4 s.pool k) with
   | false =>
    rw[YB Z4 _ _ c1 (by simp only[Ua,q1,Bool.false_and])]at hk;refine xx ?_;exact ZO (ZO (ZP (by simpa using hk)))
   | true =>
   refine xx ?_;refine VT _ hs few _ ?_
   cases q2:Y6 s (gr Z4 s.pool k).acct with
   | false =>
    rw[YB Z4 _ _ c1 (by simp only[Ua,q2,Bool.and_false,Bool.false_and])]at hk;refine xx ?_;exact ZO (ZO (ZP (by simpa using hk)))
   | true =>
   have next:Ua s (gr Z4 s.pool k)=true→∀j,j<k+1→Ua s (gr Z4 s.pool j)=true:=fun hq j hj=>by
    by_cases e:j=k
    ·subst e;exact hq
    ·exact k2 j (by omega)
   cases q3:(gr Z4 s.pool k).new with
   | true =>
    refine xx ?_;exact⟨k+1,⟨by omega,next (by simp only[Ua,q1,q2,q3,Bool.true_and,Bool.true_or])⟩,by omega,by simp [Ent,List.lookup],Za.tail _ _ _⟩
   | false =>
    refine xx ?_;refine U3 _ _ _ ?_
    cases q4:wi (gr Z4 s.pool k).mem 0 ((s.members.length:Int)-1) with
    | false =>
     rw[YB Z4 _ _ c1 (by simp only[Ua,q3,q4,Bool.or_self,Bool.and_false])]at hk;refine xx ?_;exact ZO (ZO (ZP (by simpa using hk)))
    | true =>
     refine xx ?_;exact⟨k+1,⟨by omega,next (by simp only[Ua,q1,q2,q3,q4,Bool.true_and,Bool.false_or])⟩,by omega,by simp [Ent,List.lookup],Za.tail _ _ _⟩
  ·have hkl:k=s.pool.length:=by omega
   subst hkl;rw[UP Z4 _ _ k2,Bool.true_and]at hk;refine xx ?_;refine Yay fun bm n_bm h_bm=>?_;(try simp only[ZT]at n_bm);refine xx ?_;refine Yq (0:Nat) (fun k=>k≤s.dues.length∧∀j,j<k→Zdc s j=true) (fun k=>[(60,.int .i64 k),(59,.int .i64 s.dues.length),(58,.slice da s.dues.length dc),(7,.map (some bm)),(1,.pointer (some ⟨b1,0,none⟩))]) (fun k=>⟨bm,4294967295,Ztt [.i64,.i64,.u64] (esD s.dues k),0⟩::⟨b1,127,stC s ⟨.slice pa s.purses.length pc,.slice ma s.members.length mc,.slice ea s.entry.length ec,.slice xa s.exit.length xc,.slice oa s.pool.length oc,.slice da s.dues.length dc,.slice ta s.motions.length tc,.slice ka s.marks.length kc,.slice ra s.ring.length rc⟩,41⟩::L) (fun _=>h) (fun k=>s.dues.length-k) ?_ ?_ ?_ ?_
   ·exact⟨Nat.zero_le _,fun j hj=>by omega⟩
   ·simp [Ent,List.lookup,Y5]
   ·exact Za.refl _ _
   rintro k ⟨k1,k2⟩;by_cases c1:k<s.dues.length
   ·have hxo:=hs.dd (gr ZW s.dues k) (by rw[Z7 c1];exact List.getElem_mem c1);have ua:=hxo.a;simp -dsimp -implicitDefEqProofs (disch:=first|with_reducible assumption|omega) [go_sem,↓WV ZW (by decide) hd,YA];refine Z0 fun b9 nb9 zb9=>?_;(try simp only[ZT]at nb9);simp -dsimp -implicitDefEqProofs (disch:=first|with_reducible assumption|omega) [go_sem,YA];refine Z0 fun b10 nb10 zb10=>?_;(try simp only[ZT]at nb10);simp -dsimp -implicitDefEqProofs (disch:=first|with_reducible assumption|omega) [go_sem,YA];refine Uv (by kernel_rfl) rfl ?_;refine xx ?_;have key:Zdc s k=true→∀j,j<k+1→Zdc s j=true:=fun hq j hj=>by
     by_cases e:j=k
     ·subst e;exact hq
     ·exact k2 j (by omega)
    refine VM _ (VT _ hs few _ ⟨rfl,rfl,rfl⟩) ?_
    cases q1:Y6 s (gr ZW s.dues k).acct with
    | false =>
     rw[VI c1 (by simp only[Zdc,VY,q1,Bool.and_false,Bool.false_and,Bool.not_true])]at hk;refine xx ?_;exact ZO (ZO (ZO (ZO (ZP hk))))
    | true =>
    refine xx ?_;refine VM _ (U3 _ _ _ ⟨rfl,rfl,rfl⟩) ?_
    cases q2:wi (gr ZW s.dues k).at' 0 2147483647 with
    | false =>
     rw[VI c1 (by simp only[Zdc,VY,q2,Bool.and_false,Bool.false_and,Bool.not_true])]at hk;refine xx ?_;exact ZO (ZO (ZO (ZO (ZP hk))))
    | true =>
    by_cases q3:1≤(gr ZW s.dues k).amt
    ·by_cases q4:(gr ZW s.dues k).amt≤4611686018427387904
     ·refine xx ?_;refine Yav (n:=Ztr (gr ZW s.dues k)) Zzq Zuq Yco rfl (esD s.dues k) (Zlw _ _) (List.mem_cons_of_mem _ (List.mem_cons_of_mem _ List.mem_cons_self)) ?_;rw[Yjq c1];simp only[Bool.false_eq_true,if_false]
      cases q5:Zri s.dues k with
      | true =>
       rw[VI c1 (by simp only[Zdc,VY,q5,Bool.and_false,Bool.false_and,Bool.not_true])]at hk;refine xx ?_;exact ZO (ZO (ZO (ZO (ZP hk))))
      | false =>
      by_cases c2:k=0
      ·have q6:Zsp s.dues k=true:=by simp [Zsp,c2]
       have c3:¬(0<(k:Int)):=by omega
       refine xx ?_;refine Zid (n:=Ztr (gr ZW s.dues k)) Zzq Zuq rfl [_,_] _ (esD s.dues k) (Zlw _ _) ((Zfv c1).1 q5) ?_;rw[← Zpb c1];refine xx ?_;exact⟨k+1,⟨by omega,key (by simp only[Zdc,VY,q1,q2,q5,q6,decide_eq_true q3,decide_eq_true q4,Bool.and_self,Bool.not_false])⟩,by omega,by simp [Ent,List.lookup],Za.trans (Za.tail _ _ _) (Za.tail _ _ _)⟩
      ·have e1:((k:Int)-1).toNat=k-1:=by omega
       by_cases c4:(gr ZW s.dues (k-1)).at'≤(gr ZW s.dues k).at'
       ·have q6:Zsp s.dues k=true:=by simp [Zsp,c4]
        simp -dsimp -implicitDefEqProofs (disch:=first|with_reducible assumption|omega) [go_sem,↓WV ZW (by decide) hd,e1];refine(Zg.fld ZW hd (j:=k-1) (o:=1) (by omega) (u:=.int .i64 (gr ZW s.dues (k-1)).at') rfl _ _ _).mpr ?_;refine xx ?_;refine Zid (n:=Ztr (gr ZW s.dues k)) Zzq Zuq rfl [_,_] _ (esD s.dues k) (Zlw _ _) ((Zfv c1).1 q5) ?_;rw[← Zpb c1];refine xx ?_;exact⟨k+1,⟨by omega,key (by simp only[Zdc,VY,q1,q2,q5,q6,decide_eq_true q3,decide_eq_true q4,Bool.and_self,Bool.not_false])⟩,by omega,by simp [Ent,List.lookup],Za.trans (Za.tail _ _ _) (Za.tail _ _ _)⟩
       ·have q6:Zsp s.dues k=false:=by simp [Zsp,c2,c4]
        simp -dsimp -implicitDefEqProofs (disch:=first|with_reducible assumption|omega) [go_sem,↓WV ZW (by decide) hd,e1];refine(Zg.fld ZW hd (j:=k-1) (o:=1) (by omega) (u:=.int .i64 (gr ZW s.dues (k-1)).at') rfl _ _ _).mpr ?_;rw[VI c1 (by simp only[Zdc,VY,q6,Bool.and_false,Bool.false_and,Bool.not_true])]at hk;refine xx ?_;exact ZO (ZO (ZO (ZO (ZP hk))))
     ·have q4':=decide_eq_false q4;rw[VI c1 (by simp only[Zdc,VY,q4',Bool.and_false,Bool.false_and,Bool.not_true])]at hk;refine xx ?_;exact ZO (ZO (ZO (ZO (ZP hk))))
    ·have q3':=decide_eq_false q3;rw[VI c1 (by simp only[Zdc,VY,q3',Bool.and_false,Bool.false_and,Bool.not_true])]at hk;refine xx ?_;exact ZO (ZO (ZO (ZO (ZP hk))))
   ·have hkl:k=s.dues.length:=by omega
    subst hkl;have hq:JA s=true:=by
     rw[JA,List.all_eq_true];exact fun j hj=>k2 j (List.mem_range.1 hj)
    rw[hq]at hk;refine xx ?_;exact ZO (ZO (ZP hk))
 ·rw[decide_eq_false c0]at hk;refine xx ?_;exact ZO (ZP (by simpa using hk))
def Yb (s:Ze):Bool:=Yl s.par&&wi s.ep 0 1073741824&&wi s.calm 0 1073741824&&VS s&&We s&&VB s&&Vd s&&UQ s&&Wi s
theorem Ut {s:Ze}(v:SV)(hs:Zn h v s)(few:Zw s)(hk:K (.bool (Yb s)) L h):Zb prog 15 [stV s v] L h K:=by
 obtain⟨pa,pc,ma,mc,ea,ec,xa,xc,oa,oc,da,dc,ta,tc,ka,kc,ra,rc,rfl⟩:=hs.slices;refine ZS func15 rfl (rs:=[_]) rfl rfl ZY (by kernel_rfl) rfl rfl ?_;refine xx ?_;refine Z0 fun b1 nb1 zb1=>?_;(try simp only[ZT]at nb1);refine xx ?_;refine Z0 fun b2 nb2 zb2=>?_;(try simp only[ZT]at nb2);refine xx ?_;refine W9 s.par hs.ok.p ?_
 cases q1:Yl s.par with
 | false =>
  simp only[Yb,q1,Bool.false_and]at hk;refine xx ?_;exact ZO (ZO (ZP hk))
 | true =>
 refine xx ?_;refine U3 _ _ _ ?_
 cases q2:wi s.ep 0 1073741824 with
 | false =>
  simp only[Yb,q2,Bool.and_false,Bool.false_and]at hk;refine xx ?_;exact ZO (ZO (ZP hk))
 | true =>
 refine xx ?_;refine U3 _ _ _ ?_
 cases q3:wi s.calm 0 1073741824 with
 | false =>
  simp only[Yb,q3,Bool.and_false,Bool.false_and]at hk;refine xx ?_;exact ZO (ZO (ZP hk))
 | true =>
 refine xx ?_;refine Zsx (s:=s) ⟨.slice pa s.purses.length pc,.slice ma s.members.length mc,.slice ea s.entry.length ec,.slice xa s.exit.length xc,.slice oa s.pool.length oc,.slice da s.dues.length dc,.slice ta s.motions.length tc,.slice ka s.marks.length kc,.slice ra s.ring.length rc⟩ hs few ?_
 cases q4:VS s with
 | false =>
  simp only[Yb,q4,Bool.and_false,Bool.false_and]at hk;refine xx ?_;exact ZO (ZO (ZP hk))
 | true =>
 refine xx ?_;refine Zkv (s:=s) ⟨.slice pa s.purses.length pc,.slice ma s.members.length mc,.slice ea s.entry.length ec,.slice xa s.exit.length xc,.slice oa s.pool.length oc,.slice da s.dues.length dc,.slice ta s.motions.length tc,.slice ka s.marks.length kc,.slice ra s.ring.length rc⟩ hs few q1 ?_
 cases q5:We s with
 | false =>
  simp only[Yb,q5,Bool.and_false,Bool.false_and]at hk;refine xx ?_;exact ZO (ZO (ZP hk))
 | true =>
 refine xx ?_;refine Zys (s:=s) ⟨.slice pa s.purses.length pc,.slice ma s.members.length mc,.slice ea s.entry.length ec,.slice xa s.exit.length xc,.slice oa s.pool.length oc,.slice da s.dues.length dc,.slice ta s.motions.length tc,.slice ka s.marks.length kc,.slice ra s.ring.length rc⟩ hs few ?_
 cases q6:VB s with
 | false =>
  simp only[Yb,q6,Bool.and_false,Bool.false_and]at hk;refine xx ?_;exact ZO (ZO (ZP hk))
 | true =>
 refine xx ?_;refine Zkp (s:=s) ⟨.slice pa s.purses.length pc,.slice ma s.members.length mc,.slice ea s.entry.length ec,.slice xa s.exit.length xc,.slice oa s.pool.length oc,.slice da s.dues.length dc,.slice ta s.motions.length tc,.slice ka s.marks.length kc,.slice ra s.ring.length rc⟩ hs few ?_
 cases q7:Vd s with
 | false =>
  simp only[Yb,q7,Bool.and_false,Bool.false_and]at hk;refine xx ?_;exact ZO (ZO (ZP hk))
 | true =>
 refine xx ?_;refine Zxk (s:=s) ⟨.slice pa s.purses.length pc,.slice ma s.members.length mc,.slice ea s.entry.length ec,.slice xa s.exit.length xc,.slice oa s.pool.length oc,.slice da s.dues.length dc,.slice ta s.motions.length tc,.slice ka s.marks.length kc,.slice ra s.ring.length rc⟩ hs few ?_
 cases q8:UQ s with
 | false =>
  simp only[Yb,q8,Bool.and_false,Bool.false_and]at hk;refine xx ?_;exact ZO (ZO (ZP hk))
 | true =>
 simp only[Yb,q1,q2,q3,q4,q5,q6,q7,q8,Bool.and_self,Bool.true_and]at hk;refine xx ?_;refine Zvo (s:=s) ⟨.slice pa s.purses.length pc,.slice ma s.members.length mc,.slice ea s.entry.length ec,.slice xa s.exit.length xc,.slice oa s.pool.length oc,.slice da s.dues.length dc,.slice ta s.motions.length tc,.slice ka s.marks.length kc,.slice ra s.ring.length rc⟩ hs few ?_;refine xx ?_;exact ZO (ZO (ZP hk))
theorem VG (m:Zc)(hk:K (.bool (decide (m.status=2∨m.status=3))) L h):Zb prog 47 [Ztw m] L h K:=by
 refine ZS func47 rfl (rs:=[_]) rfl rfl ZY (by kernel_rfl) rfl rfl ?_;refine xx ?_;refine Z0 fun b1 nb1 zb1=>?_;(try simp only[ZT]at nb1);refine xx ?_;by_cases c:m.status=2
 ·refine xx ?_;exact ZO (ZP (by simpa [c] using hk))
 ·refine xx ?_;exact ZO (ZP (by simpa [c] using hk))
def Zkf (s:Ze):Bool:=decide (s.purses.length≤100)&&decide (s.members.length≤200)&&decide (s.entry.length≤300)&&decide (s.exit.length≤300)&&decide (s.pool.length≤300)&&decide (s.dues.length≤200)&&decide (s.motions.length≤40)&&decide (s.ring.length≤20)&&decide (s.marks.length≤50)
def Zck (s:Ze):Bool:=Zkf s&&s.ring.all (fun b=>decide (b.length≤50))&&s.motions.all (fun m=>decide (m.yes.length≤50)&&decide (m.no.length≤50))
theorem Ga {s:Ze}(hf:Zkf s=true):s.purses.length≤100∧s.members.length≤200∧s.entry.length≤300∧s.exit.length≤300∧s.pool.length≤300∧s.dues.length≤200∧s.motions.length≤40∧s.ring.length≤20∧s.marks.length≤50:=by
 simp only[Zkf,Bool.and_eq_true,decide_eq_true_eq]at hf;omega
theorem Zeo {s:Ze}(hf:Zck s=true):Zkf s=true:=by
 simp only[Zck,Bool.and_eq_true]at hf;exact hf.1.1
theorem Zbv {s:Ze}(v:SV)(hs:Zn h v s)(hk:K (.bool (Zck s)) L h):Zb prog 14 [stV s v] L h K:=by
 obtain⟨pa,pc,ma,mc,ea,ec,xa,xc,oa,oc,da,dc,ta,tc,ka,kc,ra,rc,rfl⟩:=hs.slices;have no:Zck s=false→K (.bool false) L h:=fun e=>by rwa [e]at hk
 refine ZS func14 rfl (rs:=[_]) rfl rfl ZY (by kernel_rfl) rfl rfl ?_;refine xx ?_;refine Z0 fun b1 nb1 zb1=>?_;(try simp only[ZT]at nb1);refine xx ?_;by_cases c1:100<s.purses.length
 ·have:=no (by simp only[Zck,Zkf,decide_eq_false (p:=s.purses.length≤100) (by omega),Bool.false_and,Bool.and_false]);refine xx ?_;exact ZO (ZP this)
 by_cases c2:200<s.members.length
 ·have:=no (by simp only[Zck,Zkf,decide_eq_false (p:=s.members.length≤200) (by omega),Bool.false_and,Bool.and_false]);refine xx ?_;exact ZO (ZP this)
 by_cases c3:300<s.entry.length
 ·have:=no (by simp only[Zck,Zkf,decide_eq_false (p:=s.entry.length≤300) (by omega),Bool.false_and,Bool.and_false]);refine xx ?_;exact ZO (ZP this)
 by_cases c4:300<s.exit.length
 ·have:=no (by simp only[Zck,Zkf,decide_eq_false (p:=s.exit.length≤300) (by omega),Bool.false_and,Bool.and_false]);refine xx ?_;exact ZO (ZP this)
 by_cases c5:300<s.pool.length
 ·have:=no (by simp only[Zck,Zkf,decide_eq_false (p:=s.pool.length≤300) (by omega),Bool.false_and,Bool.and_false]);refine xx ?_;exact ZO (ZP this)
 by_cases c6:200<s.dues.length
 ·have:=no (by simp only[Zck,Zkf,decide_eq_false (p:=s.dues.length≤200) (by omega),Bool.false_and,Bool.and_false]);refine xx ?_;exact ZO (ZP this)
 by_cases c7:40<s.motions.length
 ·have:=no (by simp only[Zck,Zkf,decide_eq_false (p:=s.motions.length≤40) (by omega),Bool.false_and,Bool.and_false]);refine xx ?_;exact ZO (ZP this)
 by_cases c8:20<s.ring.length
 ·have:=no (by simp only[Zck,Zkf,decide_eq_false (p:=s.ring.length≤20) (by omega),Bool.false_and,Bool.and_false]);refine xx ?_;exact ZO (ZP this)
 by_cases c9:50<s.marks.length
 ·have:=no (by simp only[Zck,Zkf,decide_eq_false (p:=s.marks.length≤50) (by omega),Bool.false_and,Bool.and_false]);refine xx ?_;exact ZO (ZP this)
 have f9:Zkf s=true:=by
  simp only[Zkf,Bool.and_eq_true,decide_eq_true_eq];omega
 obtain⟨qr,hdr,tr⟩:=hs.r;have hqr:qr.length=s.ring.length:=by rw[← tr,W6]
 simp only at hdr;obtain⟨_,_,hre,_,_,_,hcr,hdd⟩:=hdr.open;injection hre with hre1 hre2 hre3
 subst hre1;subst hre3;have hcr':∀j,j<s.ring.length→Z8 h ra j=some ((fun j=>(gs qr j).1) j):=fun j hj=>hcr j (by omega);have hgs:∀j,j<qr.length→gr [] s.ring j=(gs qr j).2:=fun j hj=>by
  rw[← tr,Z7 (by rw[W6];exact hj),GQ hj];simp [xsL]
 refine xx ?_;refine Yq (0:Nat) (fun k=>k≤s.ring.length∧∀j,j<k→(fun b:List Int=>decide (b.length≤50)) (gr [] s.ring j)=true) (fun k=>[(62,.int .i64 k),(61,.int .i64 s.ring.length),(60,.slice ra s.ring.length rc),(1,.pointer (some ⟨b1,0,none⟩))]) (fun _=>⟨b1,34,stC s ⟨.slice pa s.purses.length pc,.slice ma s.members.length mc,.slice ea s.entry.length ec,.slice xa s.exit.length xc,.slice oa s.pool.length oc,.slice da s.dues.length dc,.slice ta s.motions.length tc,.slice ka s.marks.length kc,.slice ra s.ring.length rc⟩,41⟩::L) (fun _=>h) (fun k=>s.ring.length-k) ?_ ?_ ?_ ?_
 ·exact⟨Nat.zero_le _,fun j hj=>by omega⟩
 ·simp [Ent,List.lookup,Y5]
 ·exact Za.refl _ _
 rintro k ⟨k1,k2⟩;by_cases d1:k<s.ring.length
 ·have hi:=hdd.at (i:=k) (by omega);obtain⟨x1,y1,hv1,_⟩:=hi.open;have hg:=hgs k (by omega);simp -dsimp -implicitDefEqProofs (disch:=first|with_reducible assumption|omega) [go_sem,idx hcr',hv1];by_cases d2:50<(gs qr k).2.length
  ·have:=no (by simp only[Zck,YB [] (fun b:List Int=>decide (b.length≤50)) s.ring d1 (by rw[hg];exact decide_eq_false (by omega)),Bool.false_and,Bool.and_false]);refine xx ?_;exact ZO (ZP this)
  ·refine xx ?_;refine⟨k+1,⟨by omega,fun j hj=>?_⟩,by omega,by simp [Ent,List.lookup],Za.refl _ _⟩;by_cases e:j=k
   ·subst e;rw[hg];first|omega|exact decide_eq_true (by omega)
   ·first|exact k2 j (by omega)|simpa using k2 j (by omega)
 have hkl:k=s.ring.length:=by omega
 subst hkl;have rall:=UP [] (fun b:List Int=>decide (b.length≤50)) s.ring k2;clear k2 d1 k1;obtain⟨q,hd,t2,t3⟩:=hs.t;have hql:q.length=s.motions.length:=by rw[← t2,List.length_map]
 have hgr:∀k,k<q.length→gr Z5 s.motions k=(gr Z2 q k).2.2:=fun k hk=>by
  rw[Z7 hk,Z7 (by omega)];simp only[← t2,List.getElem_map]
 simp only at hd;refine xx ?_;refine Yq (0:Nat) (fun k=>k≤s.motions.length∧∀j,j<k→(fun m:Zl=>decide (m.yes.length≤50)&&decide (m.no.length≤50)) (gr Z5 s.motions j)=true) (fun k=>[(73,.int .i64 k),(72,.int .i64 s.motions.length),(71,.slice ta s.motions.length tc),(1,.pointer (some ⟨b1,0,none⟩))]) (fun _=>⟨b1,34,stC s ⟨.slice pa s.purses.length pc,.slice ma s.members.length mc,.slice ea s.entry.length ec,.slice xa s.exit.length xc,.slice oa s.pool.length oc,.slice da s.dues.length dc,.slice ta s.motions.length tc,.slice ka s.marks.length kc,.slice ra s.ring.length rc⟩,41⟩::L) (fun _=>h) (fun k=>s.motions.length-k) ?_ ?_ ?_ ?_
 ·exact⟨Nat.zero_le _,fun j hj=>by omega⟩
 ·simp [Ent,List.lookup,Y5]
 ·exact Za.refl _ _
 rintro k ⟨k1,k2⟩;by_cases d1:k<s.motions.length
 ·have hx:Zs h (gr Z2 q k):=by rw[Z7 (by omega)];exact t3 _ (List.getElem_mem (by omega))
  have hg:=hgr k (by omega);obtain⟨x1,y1,hv1,_⟩:=hx.y.open;obtain⟨x2,y2,hv2,_⟩:=hx.n.open;simp -dsimp -implicitDefEqProofs (disch:=first|with_reducible assumption|omega) [go_sem,↓WV Z2 (by decide) hd,Wb];refine Z0 fun b2 nb2 zb2=>?_;(try simp only[ZT]at nb2);simp -dsimp -implicitDefEqProofs (disch:=first|with_reducible assumption|omega) [go_sem,Wb,hv1,hv2];by_cases d2:50<(gr Z2 q k).2.2.yes.length
  ·have:=no (by simp only[Zck,YB Z5 (fun m:Zl=>decide (m.yes.length≤50)&&decide (m.no.length≤50)) s.motions d1 (by rw[hg];simp;omega),Bool.and_false]);refine xx ?_;exact ZO (ZO (ZP this))
  by_cases d3:50<(gr Z2 q k).2.2.no.length
  ·have:=no (by simp only[Zck,YB Z5 (fun m:Zl=>decide (m.yes.length≤50)&&decide (m.no.length≤50)) s.motions d1 (by rw[hg];simp;omega),Bool.and_false]);refine xx ?_;exact ZO (ZO (ZP this))
  refine xx ?_;refine⟨k+1,⟨by omega,fun j hj=>?_⟩,by omega,by simp [Ent,List.lookup],Za.tail _ _ _⟩;by_cases e:j=k
  ·subst e;rw[hg];first|omega|(simp;omega)
  ·first|exact k2 j (by omega)|simpa using k2 j (by omega)
 ·have hkl:k=s.motions.length:=by omega
  subst hkl;have tall:=UP Z5 (fun m:Zl=>decide (m.yes.length≤50)&&decide (m.no.length≤50)) s.motions k2;have yes:Zck s=true:=by simp only[Zck,f9,rall,tall,Bool.and_self]
  rw[yes]at hk;refine xx ?_;exact ZO (ZP hk)
theorem Ztg {h:PH}{v:Value}{n:Nat}(sl:Sl h v n 1 (List.replicate n (.int .u8 0))):Ints h .u8 v (List.replicate n 0) :=
 ⟨by simpa [List.map_replicate] using sl,fun z hz=>by rw[List.eq_of_mem_replicate hz];decide⟩
open Go.RowKit
section
variable {P:Program} {L:Own} {h:PH} {E:Env} {K:PK} {l:Nat} {rec:LoopState→Option Code→Obj}
@[go_sem ↓] theorem Ycj:Zyw l rec K .normal E L h=Ymv K true l (rec .ready none) L h:=rfl
@[go_sem ↓] theorem You (p:Tmp)(ps:List Tmp)(v:Value)(vs:List Value):Zdl (p::ps) (v::vs) E=Zdl ps vs ((p,v)::E):=rfl
@[go_sem ↓] theorem Yys (vs:List Value):Zdl [] vs E=E:=by cases vs<;>rfl
theorem Zyt {v:Bool}{o:Obj}{L':Own}{h':PH}(hd:Za L h L' h')(hk:K (.bool v) (Zms l o::L') h'):Ymv K v l o L h:=⟨L',h',hd,hk⟩
end
theorem Yxw {P:Program}(hm:P.follows .mixedOrders=true){l D fn:Nat}{tmps:Array Value}{ps:List Tmp}{assign body:Code}{E:Env}{args:List Value}{L:Own}{h:PH}{K:PK}
  (he:∀i v,E.lookup i=some v→tmps.getD i undef=v) (hp:(ps.toArray.all fun p=>decide (p<tmps.size))=true) (ha:wfC tmps.size assign=true) (hb:wfC tmps.size body=true)
  (na:Uc assign=true) (nb:Uc body=true) (hl:ps.length=args.length)
  (hx:xC P assign (thn (xC P body (Zyw l (G6 fn tmps ps.toArray assign body D) K)) fun _ _ _ _=>False) (Zdl ps args E) L h) :
  YSpec P l args (Zms l (G6 fn tmps ps.toArray assign body D .ready none)::L) h K:=by
 refine Zmk hm he hp ha hb na nb (by simpa using hl) ?_;have key:∀Q1 Q2:Gz,Q1=Q2→xC P assign Q2 (Zdl ps args E) L h→xC P assign Q1 (Zdl ps args E) L h:=fun _ _ e hx=>e ▸ hx;refine key _ _ ?_ hx
 funext e E1 L1 h1
 cases e<;>rfl
theorem YSpec.apn {P:Program}{l:Nat}{args:List Value}{L:Own}{h:PH}{K:PK}(hs:YSpec P l args L h fun v L' h'=>Ap L' h'→Nd L'→K v L' h'):YSpec P l args L h K :=
 ⟨trivial,fun W hg=>by
  obtain⟨fn,tmps,assign,body,hy,hR⟩:=hs.2 W hg
  exact⟨fn,tmps,assign,body,hy,hR.mono fun _ _ ⟨r,L',h',e,k,st⟩=>⟨r,L',h',e,k (Ap.of st.1.apart) (Nd.of st.1.nodup),st⟩⟩⟩
theorem Ap.app {h:PH}:∀ {A B:Own},Ap (A++B) h→Ap A h∧Ap B h
 | [],_,hb=>⟨trivial,hb⟩
 | _::_,_,ha=>⟨⟨ha.1,(Ap.app ha.2).1⟩,(Ap.app ha.2).2⟩
theorem Ziq {A B:Own}:(B++A).Perm (A++B):=List.perm_append_comm
@[go_sem ↓] theorem Yns {Q:Gz}{E:Env}{L:Own}{h:PH}:Ylb Q E L h none=Q .normal E L h:=rfl
theorem Yyy {P:Program}{gf:Nat}{lb:Array Value}{ps:Array Tmp}{assign body:Code}{Q:Gz}{E:Env}{L:Own}{h:PH}(hc:UF P gf)
  (hs:∀(l D fn:Nat) (tmps:Array Value),(∀i v,E.lookup i=some v→tmps.getD i undef=v)→(ps.all fun p=>decide (p<tmps.size))=true→wfC tmps.size assign=true→wfC tmps.size body=true→ZT l L→h l=noC →
   Zb P gf (.func (.yield l) #[] #[]::lb.toList) (Zms l (G6 fn tmps ps assign body D .ready none)::L) h fun _ L' h' =>
    ∃st jump L1,L'=Zms l (G6 fn tmps ps assign body D st jump)::L1∧st ≠ .busy∧Ylb Q E L1 h' jump):Zvm P (.func (.func gf) #[] lb) ps assign body Q E L h :=
 ⟨gf,lb,rfl,hc,hs⟩
theorem Zpg {e sz:Nat}(o:Option (Nat×Nat))(xs:List Value)(A B:Own):oent e sz o xs A++B=oent e sz o xs (A++B):=by
 cases o<;>rfl
theorem Zev {b:Nat}:∀ {A B:Own},ZT b (A++B)→ZT b A
 | [],_,_=>trivial
 | _::_,_,h=>⟨h.1,Zev h.2⟩
theorem Ydp {o:Option (Nat×Nat)}{A B:Own}{h:PH}(ha:apO o (A++B) h):apO o A h:=by
 cases o with
 | none=>trivial
 | some p=>exact⟨Zev ha.1,ha.2⟩
theorem Yr {b e sz:Nat}{o:Option (Nat×Nat)}{xs:List Value}{L:Own}(ha:ZT b (oent e sz o xs L)):ZT b L:=by
 cases o with
 | none=>exact ha
 | some p=>exact ha.2
theorem Vq {h:PH}{o:Option (Nat×Nat)}{xs:List Value}{b:Nat}(hb:apB o b)(hh:h b=noC):JD h o xs b=noC:=by
 cases o with
 | none=>exact hh
 | some p =>
  have:p.1≠b:=hb
  funext i
  simp only[JD,pub,if_neg (Ne.symm this),hh]
end Go.X
