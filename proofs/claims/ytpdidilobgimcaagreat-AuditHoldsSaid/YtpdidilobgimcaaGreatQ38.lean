/- Lemmas and contracts. Conditions: as each says. -/
import Derived.Test.YtpdidilobgimcaaGreatQ37
set_option linter.unusedVariables false
set_option linter.unusedSimpArgs false
set_option maxHeartbeats 12800000
set_option maxRecDepth 20000
namespace Go.X
open Go.RowKit Go.Proofs Go.Bl Go.Proofs.Tryz
variable {L:Own} {h:PH} {K:PK}
theorem Zry {bl:List Bool}(v:Value)(hb:Bools h v bl)(hl:bl.length≤100)(hk:∀i:Int,-1≤i→i≤100→(0≤i↔bl.all id=false)→K (.int .i64 i) L h):Zb prog 335 [v,.bool false] L h K:=by
 have ob:=hb.open;obtain⟨a,c,rfl,_,_,hcs⟩:=ob;refine ZS func335 rfl (rs:=[_]) rfl rfl ZY (by kernel_rfl) rfl rfl ?_;refine xx ?_;refine Wj (0:Nat) (fun k=>k≤bl.length∧∀j,j<k→bol bl j=true) (fun k=>[(8,.int .i64 k),(7,.int .i64 bl.length),(0,.slice a bl.length c),(1,.bool false)]) (fun k=>bl.length-k) ?_ ?_ ?_
 ·exact⟨Nat.zero_le _,fun j hj=>by omega⟩
 ·simp [Ent,List.lookup,Y5]
 rintro k ⟨k1,k2⟩;by_cases d:k<bl.length
 ·cases hg:bol bl k with
  | true =>
   simp -dsimp -implicitDefEqProofs (disch:=first|with_reducible assumption|omega) [go_sem,idx (idxB hcs),hg];refine⟨k+1,⟨by omega,fun j hj=>?_⟩,by omega,by simp [Ent,List.lookup],Za.refl _ _⟩;by_cases e:j=k
   ·subst e;exact hg
   ·exact k2 j (by omega)
  | false =>
   have:bl.all id=false:=by
    rw[List.all_eq_false];refine⟨bl[k],List.getElem_mem d,?_⟩;simp [bol,d]at hg;simp [hg]
   simp -dsimp -implicitDefEqProofs (disch:=first|with_reducible assumption|omega) [go_sem,idx (idxB hcs),hg];exact ZP (hk k (by omega) (by omega) ⟨fun _=>this,fun _=>by omega⟩)
 ·have:bl.all id=true:=by
   rw[List.all_eq_true];intro x hx;obtain⟨j,hj,rfl⟩:=List.mem_iff_getElem.1 hx;have:=k2 j (by omega);simp [bol,hj]at this
   simpa using this
  refine xx ?_;exact ZP (hk (-1) (by omega) (by omega) ⟨fun x=>by omega,fun x=>by rw[this]at x;cases x⟩)
theorem Zfs {bl:List Bool}(v:Value)(hb:Bools h v bl)(hl:bl.length≤100)(hk:K (.bool (!bl.all id)) L h):Zb prog 255 [v,.bool false] L h K:=by
 have ob:=hb.open;obtain⟨a,c,rfl,_⟩:=ob;refine ZS func255 rfl (rs:=[_]) rfl rfl ZY (by kernel_rfl) rfl rfl ?_;refine xx ?_;refine Zry _ hb hl fun i i1 i2 i3=>?_;have e:decide (0≤i) = !bl.all id:=by
  cases hc:bl.all id with
  | true=>exact decide_eq_false fun x=>by rw[i3.1 x]at hc;cases hc
  | false=>exact decide_eq_true (i3.2 hc)
 refine xx ?_;refine ZP ?_;rw[e];exact hk
theorem Vr {bl:List Bool}(v:Value)(hb:Bools h v bl)(hl:bl.length≤100)(hk:K (.bool (bl.all id)) L h):Zb prog 130 [v] L h K:=by
 have ob:=hb.open;obtain⟨a,c,rfl,_⟩:=ob;refine ZS func130 rfl (rs:=[_]) rfl rfl ZY (by kernel_rfl) rfl rfl ?_;refine xx ?_;refine Zfs _ hb hl ?_;refine xx ?_;exact ZP hk
theorem Zan (n a b:Int)(ha:0≤a∧a≤18446744073709551615)(hb:0≤b∧b≤18446744073709551615)(hn:n≤18446744073709551615)(hk:K (.bool (Zah n a b)) L h):Zb prog 247 [.int .u64 n,.int .u64 a,.int .u64 b] L h K:=by
 refine ZS func247 rfl (rs:=[_]) rfl rfl ZY (by kernel_rfl) rfl rfl ?_;refine xx ?_;refine WM _ _ ha hb ?_;by_cases c:a+b≤18446744073709551615
 ·rw[YK c];refine xx ?_;exact ZP hk
 ·rw[Wl c];have e:Zah n a b=false:=decide_eq_false (by omega);rw[e]at hk;refine xx ?_;exact ZP hk
theorem GO (n a b:Int)(hn:0≤n∧n≤18446744073709551615)(ha:0≤a∧a≤18446744073709551615)(hb:0≤b∧b≤18446744073709551615)(hk:∀h',PH.le h h'→K (.bool (Zah n a b)) L h'):Zb prog 252 [.int .u64 n,.int .u64 a,.int .u64 b] L h K:=by
 refine ZS func252 rfl (rs:=[_]) rfl rfl ZY (by kernel_rfl) rfl rfl ?_;refine xx ?_;refine Wr n hn.1 hn.2 fun h1 r1 l1 n1=>?_;refine xx ?_;refine Wr a ha.1 ha.2 fun h2 r2 l2 n2=>?_;refine xx ?_;refine Wr b hb.1 hb.2 fun h3 r3 l3 n3=>?_;refine xx ?_;refine Zff _ _ (n2.up l3) n3 (by decide) fun h4 r4 l4 n4=>?_;refine xx ?_;refine UX _ _ (n1.up (l2.trans (l3.trans l4))) n4 ?_;have e:decide (Gv n (a+b)=0)=Zah n a b:=by
  unfold Gv Zah;rw[decide_eq_decide];split
  ·constructor<;>omega
  ·split
   ·constructor<;>omega
   ·constructor<;>omega
 refine xx ?_;rw[e];exact ZP (hk h4 (l1.trans (l2.trans (l3.trans l4))))
theorem Ygs (d e:Zk)(x y:Operand)(K:Value→Prop)(t:Zo K):VW prog .neq 153 x y (.agg #[.int .i64 d.acct,.int .i64 d.mem,.int .u64 d.amt,.bool d.new]) (.agg #[.int .i64 e.acct,.int .i64 e.mem,.int .u64 e.amt,.bool e.new]) K t=K (.bool (!Ur d e)):=Zno (b:=Ur d e) (by kernel_rfl) (by kernel_rfl) x y K t
theorem Ygl (d e:Zk)(x y:Operand)(K:Value→Prop)(t:Zo K):VW prog .neq 249 x y (.agg #[.int .i64 d.acct,.int .i64 d.mem,.int .u64 d.amt,.bool d.new]) (.agg #[.int .i64 e.acct,.int .i64 e.mem,.int .u64 e.amt,.bool e.new]) K t=K (.bool (!Ur d e)):=Zno (b:=Ur d e) (by kernel_rfl) (by kernel_rfl) x y K t
theorem Zzl {l m:List Zk}{k:Nat}(hk:k<l.length)(c:Ur (gr Z4 l k) (gr Z4 m k)=false):Vb l m=false:=by
 rw[Vb,decide_eq_false (fun x:∀j,j<l.length→Ur (gr Z4 l j) (gr Z4 m j)=true=>by rw[x k hk]at c;cases c),Bool.and_false]
theorem Zrw {l m:List Zk}(v u:Value)(hx:Zg V1 4 h v l)(hy:Zg V1 4 h u m)(hk:K (.bool (Vb l m)) L h):Zb prog 251 [v,u] L h K:=by
 obtain⟨a,ca,rfl,hna,hca,_,hd⟩:=hx.open;obtain⟨b,cb,rfl,hnb,hcb,_,hd'⟩:=hy.open;refine ZS func251 rfl (rs:=[_]) rfl rfl ZY (by kernel_rfl) rfl rfl ?_;by_cases c0:l.length=m.length
 rotate_left
 ·have e:Vb l m=false:=by rw[Vb,decide_eq_false c0];rfl
  rw[e]at hk;refine xx ?_;exact ZP hk
 refine xx ?_;refine Wj (0:Nat) (fun k=>k≤l.length∧∀j,j<k→Ur (gr Z4 l j) (gr Z4 m j)=true) (fun k=>[(13,.int .i64 k),(12,.int .i64 l.length),(0,.slice a l.length ca),(1,.slice b m.length cb)]) (fun k=>l.length-k) ?_ ?_ ?_
 ·exact⟨Nat.zero_le _,fun j hj=>by omega⟩
 ·simp [Ent,List.lookup,Y5]
 rintro k ⟨k1,k2⟩;by_cases c1:k<l.length
 ·refine xx ?_;refine Uv (by kernel_rfl) rfl ?_
  cases c2:Ur (gr Z4 l k) (gr Z4 m k) with
  | true =>
   simp -dsimp -implicitDefEqProofs (disch:=first|with_reducible assumption|omega) [go_sem,↓WV Z4 (by decide) hd,↓WV Z4 (by decide) hd',V1,Ygs,c2];refine⟨k+1,⟨by omega,fun j hj=>?_⟩,by omega,by simp [Ent,List.lookup],Za.refl _ _⟩;by_cases e:j=k
   ·subst e;exact c2
   ·exact k2 j (by omega)
  | false =>
   rw[Zzl c1 c2]at hk;simp -dsimp -implicitDefEqProofs (disch:=first|with_reducible assumption|omega) [go_sem,↓WV Z4 (by decide) hd,↓WV Z4 (by decide) hd',V1,Ygs,c2];exact ZP hk
 ·have e:Vb l m=true:=by rw[Vb,decide_eq_true c0,decide_eq_true fun j hj=>k2 j (by omega)];rfl
  rw[e]at hk;refine xx ?_;exact ZP hk
theorem Zqe {l m:List Zk}(v u:Value)(hx:Zg V1 4 h v l)(hy:Zg V1 4 h u m)(hk:K (.bool (Vb l m)) L h):Zb prog 71 [v,u] L h K:=by
 obtain⟨a,ca,rfl,hna,hca,_,hd⟩:=hx.open;obtain⟨b,cb,rfl,hnb,hcb,_,hd'⟩:=hy.open;refine ZS func71 rfl (rs:=[_]) rfl rfl ZY (by kernel_rfl) rfl rfl ?_;by_cases c0:l.length=m.length
 rotate_left
 ·have e:Vb l m=false:=by rw[Vb,decide_eq_false c0];rfl
  rw[e]at hk;refine xx ?_;exact ZP hk
 refine xx ?_;refine Wj (0:Nat) (fun k=>k≤l.length∧∀j,j<k→Ur (gr Z4 l j) (gr Z4 m j)=true) (fun k=>[(5,.int .i64 k),(0,.slice a l.length ca),(1,.slice b m.length cb)]) (fun k=>l.length-k) ?_ ?_ ?_
 ·exact⟨Nat.zero_le _,fun j hj=>by omega⟩
 ·simp [Ent,List.lookup,Y5]
 rintro k ⟨k1,k2⟩;by_cases c1:k<l.length
 ·refine xx ?_;refine Uv (by kernel_rfl) rfl ?_
  cases c2:Ur (gr Z4 l k) (gr Z4 m k) with
  | true =>
   simp -dsimp -implicitDefEqProofs (disch:=first|with_reducible assumption|omega) [go_sem,↓WV Z4 (by decide) hd,↓WV Z4 (by decide) hd',V1,Ygl,c2];refine⟨k+1,⟨by omega,fun j hj=>?_⟩,by omega,by simp [Ent,List.lookup],Za.refl _ _⟩;by_cases e:j=k
   ·subst e;exact c2
   ·exact k2 j (by omega)
  | false =>
   rw[Zzl c1 c2]at hk;simp -dsimp -implicitDefEqProofs (disch:=first|with_reducible assumption|omega) [go_sem,↓WV Z4 (by decide) hd,↓WV Z4 (by decide) hd',V1,Ygl,c2];exact ZP hk
 ·have e:Vb l m=true:=by rw[Vb,decide_eq_true c0,decide_eq_true fun j hj=>k2 j (by omega)];rfl
  rw[e]at hk;refine xx ?_;exact ZP hk
theorem Zcd {s:Ze}{v:SV}(hs:Zn h v s)(hn1:s.members.length≤100000)(hn2:s.pool.length≤100000)(hn3:s.dues.length≤100000)(hn4:s.motions.length≤100000)(hk:∀h' u,PH.le h h'→Zn h' u s→K (stV s u) L h'):Zb prog 18 [stV s v] L h K:=by
 obtain⟨vp,vm,ve,vx,vo,vd,vt,vk,vr⟩:=v;obtain⟨ok1,p1,m1,mo1,e1,x1,o1,oo1,d1,dd1,⟨q1,t1,t1e,t1m⟩,k1,⟨r1,r1s,r1e⟩⟩:=hs;simp only at p1 m1 e1 x1 o1 d1 t1 k1 r1s;have cp1:=p1.open;obtain⟨ap1,zp1,rfl,_⟩:=cp1;have cm1:=m1.open;obtain⟨am1,zm1,rfl,_⟩:=cm1;have ce1:=e1.open;obtain⟨ae1,ze1,rfl,_⟩:=ce1;have cx1:=x1.open;obtain⟨ax1,zx1,rfl,_⟩:=cx1;have co1:=o1.open;obtain⟨ao1,zo1,rfl,_⟩:=co1;have cd1:=d1.open;obtain⟨ad1,zd1,rfl,_⟩:=cd1;have ct1:=t1.open;obtain⟨at1,zt1,rfl,_⟩:=ct1;have ck1:=k1.open;obtain⟨ak1,zk1,rfl,_⟩:=ck1;obtain⟨ar1,zr1,rfl,_,_,_,_,r1t⟩:=r1s.open;have hql:q1.length≤100000:=by have:=congrArg List.length t1e;simp at this;omega
 refine ZS func18 rfl (rs:=[_]) rfl rfl ZY (by kernel_rfl) rfl rfl ?_;refine xx ?_;refine Z0 fun b1 nb1 zb1=>?_;(try simp only[ZT]at nb1);refine xx ?_;refine Z0 fun b2 nb2 zb2=>?_;(try simp only[ZT]at nb2);refine xx ?_;refine Yi (.tk 0 (.tk 2 (.tk 4 (.tk 6 (.tk 8 (.tk 10 (.tk 12 (.tk 14 (.tk 16 (.tk 18 (.tk 20 (.tk 23 (.tk 25 (.tk 27 (.tk 30 (.tk 33 (.tk 36 (.tk 38 (.tkl 1 (.tkl 3 (.tkl 5 (.tkl 7 (.tkl 9 (.tkl 11 (.tkl 13 (.tkl 15 (.tkl 17 (.tkl 19 (.tkl 21 (.tkl 24 (.tkl 26 (.tkl 28 (.tkl 31 (.tkl 34 (.tkl 37 (.tkl 39 (.o1 22 (.o1 29 (.o1 32 (.o1 35 (.tk 40 (.o2 41 (.fin) (.nil))) (.nil)) (.nil)) (.nil)) (.nil)))))))))))))))))))))))))))))))))))))) (by kernel_rfl) (by kernel_rfl) _ (Za.refl _ _) ?_;refine xx ?_;refine Zb.apn (Zss _ m1 hn1 fun h2 r2 le2 hr2 ap nd=>?_);simp only[Ap]at ap;obtain⟨u1,u2,_⟩:=ap;have hr2':=hr2;obtain⟨am2,zm2,rfl,_⟩:=hr2'.open;refine xx ?_;refine xkp (Za.forget le2) ?_;refine xx ?_;refine Zb.apn (Zjv _ (o1.up le2) hn2 fun h5 r5 le5 hr5 ap nd=>?_);simp only[Ap]at ap;obtain⟨v5,w5,_⟩:=ap;have hr5':=hr5;obtain⟨as5,zs5,rfl,_⟩:=hr5'.open;refine xx ?_;refine xkp (Za.forget (le2.trans le5)) ?_;refine xx ?_;refine Zb.apn (Zkc _ (d1.up (le2.trans le5)) hn3 fun h6 r6 le6 hr6 ap nd=>?_);simp only[Ap]at ap;obtain⟨v6,w6,_⟩:=ap;have hr6':=hr6;obtain⟨as6,zs6,rfl,_⟩:=hr6'.open;refine xx ?_;refine xkp (Za.forget ((le2.trans le5).trans le6)) ?_;refine xx ?_;refine Zb.apn (Zho _ (t1.up (le2.trans (le5.trans le6))) (fun x hx=>(t1m x hx).up (le2.trans (le5.trans le6))) hql fun h7 r7 le7 hr7 ap nd=>?_);simp only[Ap]at ap;obtain⟨v7,w7,_⟩:=ap;have hr7':=hr7;obtain⟨as7,zs7,rfl,_⟩:=hr7'.open;refine xx ?_;refine xkp (Za.forget ((le2.trans (le5.trans le6)).trans le7)) ?_;refine xx ?_;have LE:=le2.trans (le5.trans (le6.trans le7))
 have hu:Zn h7 ⟨.slice ap1 s.purses.length zp1,.slice am2 s.members.length zm2,.slice ae1 s.entry.length ze1,.slice ax1 s.exit.length zx1,.slice as5 s.pool.length zs5,.slice as6 s.dues.length zs6,.slice as7 q1.length zs7,.slice ak1 s.marks.length zk1,.slice ar1 r1.length zr1⟩ s :=
  ⟨ok1,p1.up LE,hr2.up (le5.trans (le6.trans le7)),mo1,e1.up LE,x1.up LE,hr5.up (le6.trans le7),oo1,hr6.up le7,dd1,⟨q1,hr7,t1e,fun x hx=>(t1m x hx).up LE⟩,k1.up LE,⟨r1,r1t.up LE,r1e⟩⟩
 exact ZO (ZO (ZP (hk h7 _ LE hu)))
theorem Zv.sl {q:RV}{r:Zf}(hq:Zv h q r):∃oa oc la lc sa sc da dc,q=⟨.slice oa r.out.length oc,.slice la r.left.length lc,.slice sa r.started.length sc,.slice da r.done.length dc⟩:=by
 obtain⟨qo,ql,qs,qd⟩:=q;obtain⟨h1,h2,h3,h4⟩:=hq;simp only at h1 h2 h3 h4;obtain⟨oa,oc,rfl,_⟩:=h1.open;obtain⟨la,lc,rfl,_⟩:=h2.open;obtain⟨sa,sc,rfl,_⟩:=h3.open;obtain⟨da,dc,rfl,_⟩:=h4.open;exact⟨oa,oc,la,lc,sa,sc,da,dc,rfl⟩
abbrev Zin (a b:Ze)(v u:SV)(r:Zf)(q:RV):Value := .agg #[.int .u64 a.par.inc,.int .u64 a.par.maxEff,.int .u64 a.par.floor,.int .u64 a.par.cap,.int .u64 a.par.up,.int .u64 a.par.down,.int .u64 a.par.bias,.int .u64 a.par.quot,.int .u64 a.par.biasEm,.int .u64 a.par.quotEm,.int .u64 a.par.recover,.int .u64 a.par.scoreCap,.int .u64 a.par.rate,.int .u64 a.par.bond,.int .i64 a.par.delay,.int .i64 a.par.streak,.int .i64 a.par.boost,.int .i64 a.par.absent,.int .i64 a.par.burn,.int .i64 a.par.churn,.int .i64 a.par.wait,.int .i64 a.par.poll,.int .i64 a.par.enact,.int .i64 a.par.quorum,.int .u64 a.most,.int .u64 a.gen,.int .u64 a.mint,.int .u64 a.burn,.int .u64 a.treas,.int .i64 a.ep,.int .i64 a.calm,.bool a.emer,v.p,v.m,v.e,v.x,v.o,v.d,v.t,v.k,v.r,.int .u64 b.par.inc,.int .u64 b.par.maxEff,.int .u64 b.par.floor,.int .u64 b.par.cap,.int .u64 b.par.up,.int .u64 b.par.down,.int .u64 b.par.bias,.int .u64 b.par.quot,.int .u64 b.par.biasEm,.int .u64 b.par.quotEm,.int .u64 b.par.recover,.int .u64 b.par.scoreCap,.int .u64 b.par.rate,.int .u64 b.par.bond,.int .i64 b.par.delay,.int .i64 b.par.streak,.int .i64 b.par.boost,.int .i64 b.par.absent,.int .i64 b.par.burn,.int .i64 b.par.churn,.int .i64 b.par.wait,.int .i64 b.par.poll,.int .i64 b.par.enact,.int .i64 b.par.quorum,.int .u64 b.most,.int .u64 b.gen,.int .u64 b.mint,.int .u64 b.burn,.int .u64 b.treas,.int .i64 b.ep,.int .i64 b.calm,.bool b.emer,u.p,u.m,u.e,u.x,u.o,u.d,u.t,u.k,u.r,.int .i64 r.ep,.int .i64 r.mode,.bool r.quo,.int .u64 r.pres,.int .u64 r.act,.int .u64 r.mint,.int .u64 r.paid,.int .u64 r.kept,.int .u64 r.burned,.int .u64 r.fees,q.o,q.l,q.s,q.d]
structure ZL (h:PH)(a b:Ze)(v u:SV)(r:Zf)(q:RV):Prop where
 ha:Zn h v a
 hb:Zn h u b
 hr:Zv h q r
 hk:Zz r
 fa:Yb a=true
 fb:Yb b=true
theorem ZL.up {h h':PH}(le:PH.le h h'){a b:Ze}{v u:SV}{r:Zf}{q:RV}(H:ZL h a b v u r q):ZL h' a b v u r q :=
 ⟨H.ha.up le,H.hb.up le,⟨H.hr.o.up le,H.hr.l.up le,H.hr.s.up le,H.hr.d.up le⟩,H.hk,H.fa,H.fb⟩
theorem YS {s:Ze}(hf:Yb s=true):(0≤s.ep∧s.ep≤1073741824)∧(0≤s.calm∧s.calm≤1073741824)∧s.members.length≤128∧Yl s.par=true:=by
 obtain⟨f1,f2,f3,f4,f5,_⟩:=fitsT_iff.1 hf;rw[wi_iff]at f2 f3;simp only[We,Bool.and_eq_true,decide_eq_true_eq]at f5;exact⟨f2,f3,f5.1.1.1,f1⟩
theorem Zz.nums {r:Zf}(h:Zz r):(0≤r.pres∧r.pres≤18446744073709551615)∧(0≤r.act∧r.act≤18446744073709551615)∧(0≤r.mint∧r.mint≤18446744073709551615)∧(0≤r.paid∧r.paid≤18446744073709551615)∧(0≤r.kept∧r.kept≤18446744073709551615)∧(0≤r.burned∧r.burned≤18446744073709551615)∧(0≤r.fees∧r.fees≤18446744073709551615)∧(-9223372036854775808≤r.ep∧r.ep≤9223372036854775807):=by
 have hu:=h.u;have hn:=h.n;simp only[List.forall_mem_cons]at hu hn;exact⟨hu.1,hu.2.1,hu.2.2.1,hu.2.2.2.1,hu.2.2.2.2.1,hu.2.2.2.2.2.1,hu.2.2.2.2.2.2.1,hn.1⟩
theorem Zvt {a b:Ze}{v u:SV}{r:Zf}{q:RV}(H:ZL h a b v u r q)(hk:∀h',PH.le h h'→K (.bool (WO a b r)) L h'):Zb prog 118 [Zin a b v u r q] L h K:=by
 obtain⟨ea,_,_,_⟩:=YS H.fa;obtain⟨eb,_,_,_⟩:=YS H.fb;have hv:=H.ha;have hu:=H.hb;have hr:=H.hr;obtain⟨pa,pc,ma,mc,ea,ec,xa,xc,oa,oc,da,dc,ta,tc,ka,kc,ra,rc,rfl⟩:=hv.slices;obtain⟨pa2,pc2,ma2,mc2,ea2,ec2,xa2,xc2,oa2,oc2,da2,dc2,ta2,tc2,ka2,kc2,ra2,rc2,rfl⟩:=hu.slices;obtain⟨qoa,qoc,qla,qlc,qsa,qsc,qda,qdc,rfl⟩:=hr.sl;clear hv hu hr;refine ZS func118 rfl (rs:=[_]) rfl rfl ZY (by kernel_rfl) rfl rfl ?_;refine xx ?_;refine Z0 fun b1 nb1 zb1=>?_;(try simp only[ZT]at nb1);refine xx ?_;refine Z0 fun b2 nb2 zb2=>?_;(try simp only[ZT]at nb2);refine xx ?_;refine Yg (sz:=1) (n:=4) (cap:=4) [] ⟨Nat.le_refl _,by decide⟩ rfl (by decide) zb2 fun h2 le2 s2 f2=>?_;refine Vr (bl:=[decide (b.ep-1=a.ep),decide (r.ep=a.ep),decide (a.most=b.most),decide (a.gen=b.gen)]) _ s2 (by simp) ?_;have e:WO a b r=([decide (b.ep-1=a.ep),decide (r.ep=a.ep),decide (a.most=b.most),decide (a.gen=b.gen)]).all id:=by
  have e1:decide (b.ep-1=a.ep)=decide (b.ep=a.ep+1):=decide_eq_decide.2 (by omega);simp only[WO,List.all_cons,List.all_nil,id,Bool.and_true,e1]
 rw[← e];simp only[List.nil_append];refine xx ?_;exact ZO (ZP (hk h2 le2))
theorem Yew {a b:Ze}{v u:SV}{r:Zf}{q:RV}(H:ZL h a b v u r q)(hk:∀h',PH.le h h'→K (.bool (Ud a b r)) L h'):Zb prog 119 [Zin a b v u r q] L h K:=by
 obtain⟨k1,k2,k3,k4,k5,k6,k7,k8⟩:=H.hk.nums;obtain⟨a1,a2,a3,a4,a5,_⟩:=H.ha.ok.all;obtain⟨b1,b2,b3,b4,b5,_⟩:=H.hb.ok.all;have hv:=H.ha;have hu:=H.hb;have hr:=H.hr;obtain⟨pa,pc,ma,mc,ea,ec,xa,xc,oa,oc,da,dc,ta,tc,ka,kc,ra,rc,rfl⟩:=hv.slices;obtain⟨pa2,pc2,ma2,mc2,ea2,ec2,xa2,xc2,oa2,oc2,da2,dc2,ta2,tc2,ka2,kc2,ra2,rc2,rfl⟩:=hu.slices;obtain⟨qoa,qoc,qla,qlc,qsa,qsc,qda,qdc,rfl⟩:=hr.sl;clear hv hu hr;refine ZS func119 rfl (rs:=[_]) rfl rfl ZY (by kernel_rfl) rfl rfl ?_;refine xx ?_;refine Z0 fun b1 nb1 zb1=>?_;(try simp only[ZT]at nb1);refine xx ?_;refine Yi (.tk 0 (.tk 1 (.tk 3 (.tk 4 (.tk 6 (.tk 7 (.tk 10 (.tk 11 (.tk 13 (.tk 14 (.tk 16 (.tk 17 (.tkl 2 (.tkl 5 (.tkl 8 (.tkl 12 (.tkl 15 (.tkl 18 (.o1 9 (.o1 19 (.o1 20 (.o1 21 (.tk 22 (.fin)) (.nil)) (.nil)) (.nil)) (.nil)))))))))))))))))))) (by kernel_rfl) (by kernel_rfl) _ (Za.refl _ _) ?_;refine xx ?_;refine Zan _ _ _ a3 k3 b3.2 ?_;refine xx ?_;refine Zan _ _ _ a4 k6 b4.2 ?_;refine xx ?_;refine Z0 fun b2 nb2 zb2=>?_;(try simp only[ZT]at nb2);refine xkp (Za.tail _ _ _) ?_;refine xx ?_;refine Yg (sz:=1) (n:=2) (cap:=2) [] ⟨Nat.le_refl _,by decide⟩ rfl (by decide) zb2 fun h2 le2 s2 f2=>?_;refine Vr (bl:=[Zah b.mint a.mint r.mint,Zah b.burn a.burn r.burned]) _ s2 (by simp) ?_;have e:Ud a b r=([Zah b.mint a.mint r.mint,Zah b.burn a.burn r.burned]).all id:=by
  simp only[Ud,List.all_cons,List.all_nil,id,Bool.and_true]
 rw[← e];refine xkp (Za.forget le2) ?_;simp only[List.nil_append];refine xx ?_;exact ZO (ZP (hk h2 le2))
theorem Zvb {a b:Ze}{v u:SV}{r:Zf}{q:RV}(H:ZL h a b v u r q)(hk:∀h',PH.le h h'→K (.bool (WZ a r)) L h'):Zb prog 120 [Zin a b v u r q] L h K:=by
 obtain⟨k1,k2,k3,k4,k5,k6,k7,k8⟩:=H.hk.nums;obtain⟨_,_,_,hr1⟩:=YS H.fa;have hp:=H.ha.ok.p;have hv:=H.ha;have hu:=H.hb;have hr:=H.hr;obtain⟨pa,pc,ma,mc,ea,ec,xa,xc,oa,oc,da,dc,ta,tc,ka,kc,ra,rc,rfl⟩:=hv.slices;obtain⟨pa2,pc2,ma2,mc2,ea2,ec2,xa2,xc2,oa2,oc2,da2,dc2,ta2,tc2,ka2,kc2,ra2,rc2,rfl⟩:=hu.slices;obtain⟨qoa,qoc,qla,qlc,qsa,qsc,qda,qdc,rfl⟩:=hr.sl;clear hv hu hr;refine ZS func120 rfl (rs:=[_]) rfl rfl ZY (by kernel_rfl) rfl rfl ?_;refine xx ?_;refine Z0 fun b1 nb1 zb1=>?_;(try simp only[ZT]at nb1);refine xx ?_;refine Yi (.tk 0 (.tk 1 (.tkl 2 (.o1 3 (.tk 4 (.tk 5 (.tk 6 (.tk 7 (.tk 9 (.tk 10 (.tk 12 (.tk 13 (.tkl 8 (.tkl 11 (.tkl 14 (.o1 15 (.tk 16 (.tk 17 (.tk 18 (.fin)))) (.nil))))))))))))) (.nil))))) (by kernel_rfl) (by kernel_rfl) _ (Za.refl _ _) ?_;refine xx ?_;refine Zih _ ?_;by_cases c:r.mode=3∨r.mode=4
 ·rw[decide_eq_true c];refine xx ?_;refine Yi (.tk 0 (.tk 1 (.tk 3 (.tk 4 (.tk 6 (.tk 7 (.tk 10 (.tk 11 (.tkl 2 (.tkl 5 (.tkl 8 (.tkl 12 (.tk 13 (.o1 9 (.tk 14 (.tk 15 (.tk 16 (.o1 17 (.o1 18 (.tk 19 (.fin)) (.nil)) (.nil))))) (.nil))))))))))))))) (by kernel_rfl) (by kernel_rfl) _ (Za.refl _ _) ?_;refine xx ?_;refine Zan _ _ _ k4 k5 k3.2 ?_;have e:WZ a r=([Zah r.mint r.paid r.kept,decide (r.mint=0)]).all id:=by
   simp only[WZ,List.all_cons,List.all_nil,id,Bool.and_true,decide_eq_true c,Bool.not_true,Bool.false_and,Bool.or_false]
  by_cases c2:r.mint=0
  ·rw[decide_eq_true c2]at e;refine xx ?_;refine Z0 fun b2 nb2 zb2=>?_;(try simp only[ZT]at nb2);refine xkp (Za.tail _ _ _) ?_;refine xx ?_;refine Yg (sz:=1) (n:=2) (cap:=2) [] ⟨Nat.le_refl _,by decide⟩ rfl (by decide) zb2 fun h2 le2 s2 f2=>?_;refine Vr (bl:=[Zah r.mint r.paid r.kept,true]) _ s2 (by simp) ?_;rw[← e];refine xkp (Za.forget le2) ?_;simp only[List.nil_append];refine xx ?_;exact ZO (ZP (hk h2 le2))
  ·rw[decide_eq_false c2]at e;refine xx ?_;refine Z0 fun b2 nb2 zb2=>?_;(try simp only[ZT]at nb2);refine xkp (Za.tail _ _ _) ?_;refine xx ?_;refine Yg (sz:=1) (n:=2) (cap:=2) [] ⟨Nat.le_refl _,by decide⟩ rfl (by decide) zb2 fun h2 le2 s2 f2=>?_;refine Vr (bl:=[Zah r.mint r.paid r.kept,false]) _ s2 (by simp) ?_;rw[← e];refine xkp (Za.forget le2) ?_;simp only[List.nil_append];refine xx ?_;exact ZO (ZP (hk h2 le2))
 ·rw[decide_eq_false c];refine xx ?_;refine Ziy a.par hp hr1 _ k2 ?_;refine xx ?_;refine Yi (.tk 0 (.tk 1 (.tk 3 (.tk 4 (.tk 6 (.tk 7 (.tk 10 (.tk 11 (.tkl 2 (.tkl 5 (.tkl 8 (.tkl 12 (.tk 13 (.o1 9 (.tk 14 (.tk 15 (.tk 16 (.o1 17 (.o1 18 (.tk 19 (.fin)) (.nil)) (.nil))))) (.nil))))))))))))))) (by kernel_rfl) (by kernel_rfl) _ (Za.refl _ _) ?_;refine xx ?_;refine Zan _ _ _ k4 k5 k3.2 ?_;have e:WZ a r=([Zah r.mint r.paid r.kept,decide (r.mint=0)||decide (r.mint=Zdj a.par r.act)]).all id:=by
   simp only[WZ,List.all_cons,List.all_nil,id,Bool.and_true,decide_eq_false c,Bool.not_false,Bool.true_and]
  by_cases c2:r.mint=0
  ·rw[decide_eq_true c2,Bool.true_or]at e;refine xx ?_;refine Z0 fun b2 nb2 zb2=>?_;(try simp only[ZT]at nb2);refine xkp (Za.tail _ _ _) ?_;refine xx ?_;refine Yg (sz:=1) (n:=2) (cap:=2) [] ⟨Nat.le_refl _,by decide⟩ rfl (by decide) zb2 fun h2 le2 s2 f2=>?_;refine Vr (bl:=[Zah r.mint r.paid r.kept,true]) _ s2 (by simp) ?_;rw[← e];refine xkp (Za.forget le2) ?_;simp only[List.nil_append];refine xx ?_;exact ZO (ZP (hk h2 le2))
  ·rw[decide_eq_false c2,Bool.false_or]at e;refine xx ?_;refine Z0 fun b2 nb2 zb2=>?_;(try simp only[ZT]at nb2);refine xkp (Za.tail _ _ _) ?_;refine xx ?_;refine Yg (sz:=1) (n:=2) (cap:=2) [] ⟨Nat.le_refl _,by decide⟩ rfl (by decide) zb2 fun h2 le2 s2 f2=>?_;refine Vr (bl:=[Zah r.mint r.paid r.kept,decide (r.mint=Zdj a.par r.act)]) _ s2 (by simp) ?_;rw[← e];refine xkp (Za.forget le2) ?_;simp only[List.nil_append];refine xx ?_;exact ZO (ZP (hk h2 le2))
theorem Yfy {h:PH}{v:SV}{s:Ze}(hs:Zn h v s)(hf:Yb s=true):WS s.members≤140737488355328:=by
 obtain⟨_,_,hl,_⟩:=YS hf;exact Gq hl fun m hm=>(Zte hs hf m hm).1
theorem Ydk {a b:Ze}{v u:SV}{r:Zf}{q:RV}(H:ZL h a b v u r q)(hk:∀h',PH.le h h'→K (.bool (UW a b r)) L h'):Zb prog 121 [Zin a b v u r q] L h K:=by
 obtain⟨k1,k2,k3,k4,k5,k6,k7,k8⟩:=H.hk.nums;obtain⟨ea,ca,la,hr1⟩:=YS H.fa;have hA:=Yfy H.ha H.fa;have hP:=Vg (ks:=a.marks) H.ha.mo;have hv:=H.ha;have hv0:=H.ha;have hu:=H.hb;have hr:=H.hr;obtain⟨pa,pc,ma,mc,ea,ec,xa,xc,oa,oc,da,dc,ta,tc,ka,kc,ra,rc,rfl⟩:=hv.slices;obtain⟨pa2,pc2,ma2,mc2,ea2,ec2,xa2,xc2,oa2,oc2,da2,dc2,ta2,tc2,ka2,kc2,ra2,rc2,rfl⟩:=hu.slices;obtain⟨qoa,qoc,qla,qlc,qsa,qsc,qda,qdc,rfl⟩:=hr.sl;clear hv hu hr;have bP:0≤VD a.members a.marks∧VD a.members a.marks≤18446744073709551615:=by omega
 have bA:0≤WS a.members∧WS a.members≤18446744073709551615:=by omega
 refine ZS func121 rfl (rs:=[_]) rfl rfl ZY (by kernel_rfl) rfl rfl ?_;refine xx ?_;refine Z0 fun b1 nb1 zb1=>?_;(try simp only[ZT]at nb1);refine xx ?_;refine Zb.ap (Zbi (l:=a.members) (ks:=a.marks) _ _ hv0.m hv0.mo hv0.k (by omega) bA.2 fun h1 le1 ap=>?_);have p1:h1 b1=noC:=ap.1;clear ap
 cases hq:r.quo with
 | true =>
  refine xx ?_;refine Yi (.tk 0 (.tk 1 (.tk 2 (.tk 3 (.tk 4 (.tk 7 (.tk 8 (.tk 9 (.tk 12 (.tk 13 (.tk 15 (.tk 16 (.tk 19 (.tk 20 (.tk 22 (.tkl 5 (.tk 6 (.tkl 10 (.tk 11 (.tkl 14 (.tkl 21 (.tk 23 (.o1 17 (.tk 18 (.o1 24 (.o1 25 (.tk 26 (.fin)) (.nil)) (.nil))) (.nil)))))))))))))))))))))))) (by kernel_rfl) (by kernel_rfl) _ (Za.refl _ _) ?_;refine xx ?_;refine Zft _ _ bP bA ?_;refine xx ?_;refine Z0 fun b2 nb2 zb2=>?_;(try simp only[ZT]at nb2);refine xkp (Za.tail _ _ _) ?_;refine xx ?_;refine Yg (sz:=1) (n:=5) (cap:=5) [] ⟨Nat.le_refl _,by decide⟩ rfl (by decide) (by first|exact zb2|assumption) fun h2 le2 s2 f2=>?_;have e:UW a b r=([true,decide (VD a.members a.marks=r.pres),decide (WS a.members=r.act),decide (0<WS a.members)&&decide (2*WS a.members<3*VD a.members a.marks),decide (b.calm=0)]).all id:=by
   have e1:decide (true=Zyl (Jw a) (WX a))=(decide (0<WS a.members)&&decide (2*WS a.members<3*VD a.members a.marks)):=by
    rw[show (decide (0<WS a.members)&&decide (2*WS a.members<3*VD a.members a.marks))=Zyl (Jw a) (WX a) from rfl]
    cases Zyl (Jw a) (WX a)<;>rfl
   rw[UW,hq,e1];simp only[List.all_cons,List.all_nil,id,Bool.and_true,Bool.true_and,Zlb,if_true]
   rfl
  refine Vr (bl:=[true,decide (VD a.members a.marks=r.pres),decide (WS a.members=r.act),decide (0<WS a.members)&&decide (2*WS a.members<3*VD a.members a.marks),decide (b.calm=0)]) _ s2 (by simp) ?_;rw[← e];refine xkp (Za.forget le2) ?_;simp only[List.nil_append];refine xx ?_;exact ZO (ZP (hk h2 (le1.trans le2)))
 | false =>
  refine xx ?_;refine Yi (.tk 0 (.tk 1 (.tk 2 (.tk 3 (.tk 4 (.tk 7 (.tk 8 (.tk 9 (.tk 12 (.tk 13 (.tk 15 (.tk 16 (.tk 19 (.tk 20 (.tk 22 (.tkl 5 (.tk 6 (.tkl 10 (.tk 11 (.tkl 14 (.tkl 21 (.tk 23 (.o1 17 (.tk 18 (.o1 24 (.o1 25 (.tk 26 (.fin)) (.nil)) (.nil))) (.nil)))))))))))))))))))))))) (by kernel_rfl) (by kernel_rfl) _ (Za.refl _ _) ?_;refine xx ?_;refine Zft _ _ bP bA ?_;refine xx ?_;refine Z0 fun b2 nb2 zb2=>?_;(try simp only[ZT]at nb2);refine xkp (Za.tail _ _ _) ?_;refine xx ?_;refine Yg (sz:=1) (n:=5) (cap:=5) [] ⟨Nat.le_refl _,by decide⟩ rfl (by decide) (by first|exact zb2|assumption) fun h2 le2 s2 f2=>?_;have e:UW a b r=([true,decide (VD a.members a.marks=r.pres),decide (WS a.members=r.act),!decide (0<WS a.members) || !decide (2*WS a.members<3*VD a.members a.marks),decide (b.calm=min a.calm 1073741823+1)]).all id:=by
   have e1:decide (false=Zyl (Jw a) (WX a))=(!decide (0<WS a.members) || !decide (2*WS a.members<3*VD a.members a.marks)):=by
    rw[← Bool.not_and,show (decide (0<WS a.members)&&decide (2*WS a.members<3*VD a.members a.marks))=Zyl (Jw a) (WX a) from rfl]
    cases Zyl (Jw a) (WX a)<;>rfl
   rw[UW,hq,e1];simp only[List.all_cons,List.all_nil,id,Bool.and_true,Bool.true_and,Zlb,Bool.false_eq_true,if_false]
   rfl
  refine Vr (bl:=[true,decide (VD a.members a.marks=r.pres),decide (WS a.members=r.act),!decide (0<WS a.members) || !decide (2*WS a.members<3*VD a.members a.marks),decide (b.calm=min a.calm 1073741823+1)]) _ s2 (by simp) ?_;rw[← e];refine xkp (Za.forget le2) ?_;simp only[List.nil_append];refine xx ?_;exact ZO (ZP (hk h2 (le1.trans le2)))
theorem Ztn {a b:Ze}{v u:SV}{r:Zf}{q:RV}(H:ZL h a b v u r q)(hk:∀h',PH.le h h'→K (.bool (Wv a b r)) L h'):Zb prog 122 [Zin a b v u r q] L h K:=by
 obtain⟨_,_,la,_⟩:=YS H.fa;obtain⟨_,_,lb,_⟩:=YS H.fb;have hv:=H.ha;have hv0:=H.ha;have hu:=H.hb;have hu0:=H.hb;have hr:=H.hr;obtain⟨pa,pc,ma,mc,ea,ec,xa,xc,oa,oc,da,dc,ta,tc,ka,kc,ra,rc,rfl⟩:=hv.slices;obtain⟨pa2,pc2,ma2,mc2,ea2,ec2,xa2,xc2,oa2,oc2,da2,dc2,ta2,tc2,ka2,kc2,ra2,rc2,rfl⟩:=hu.slices;obtain⟨qoa,qoc,qla,qlc,qsa,qsc,qda,qdc,rfl⟩:=hr.sl;clear hv hu hr
 cases hq:r.quo with
 | true =>
  have e:Wv a b r=true:=by rw[Wv,hq];rfl
  have hk0:=hk h (PH.le_refl h);rw[e]at hk0;refine ZS func122 rfl (rs:=[_]) rfl rfl ZY (by kernel_rfl) rfl rfl ?_;simp -dsimp -implicitDefEqProofs (disch:=first|with_reducible assumption|omega) [go_sem,hq];refine Z0 fun b1 nb1 zb1=>?_;(try simp only[ZT]at nb1);refine xx ?_;exact ZO (ZP hk0)
 | false =>
 have e0:Wv a b r=([decide (a.par=b.par),decide ((a.members.length:Int)=b.members.length),Vb a.pool b.pool].all id&&Zvq a b):=by
  rw[Wv,hq,show decide ((a.members.length:Int)=b.members.length)=decide (a.members.length=b.members.length) from decide_eq_decide.2 (by omega)];simp only[List.all_cons,List.all_nil,id,Bool.and_true,Bool.false_or,Bool.and_assoc]
 refine ZS func122 rfl (rs:=[_]) rfl rfl ZY (by kernel_rfl) rfl rfl ?_;simp -dsimp -implicitDefEqProofs (disch:=first|with_reducible assumption|omega) [go_sem,hq];refine Z0 fun b1 nb1 zb1=>?_;(try simp only[ZT]at nb1);refine xx ?_;refine Yi (.tk 0 (.tk 1 (.tk 3 (.tk 4 (.tk 7 (.tk 8 (.tk 11 (.tk 12 (.tk 16 (.tk 17 (.tk 19 (.tk 20 (.tkl 2 (.tkl 5 (.tk 6 (.tkl 9 (.tk 10 (.tkl 13 (.tk 14 (.tk 15 (.tkl 18 (.tkl 21 (.o1 22 (.o1 23 (.o1 24 (.tk 25 (.fin)) (.nil)) (.nil)) (.nil)))))))))))))))))))))))) (by kernel_rfl) (by kernel_rfl) _ (Za.refl _ _) ?_;simp -dsimp -implicitDefEqProofs (disch:=first|with_reducible assumption|omega) [go_sem,Yhj];refine Zrw _ _ hv0.o hu0.o ?_;refine xx ?_;refine Z0 fun b2 nb2 zb2=>?_;(try simp only[ZT]at nb2);refine xkp (Za.tail _ _ _) ?_;refine xx ?_;refine Yg (sz:=1) (n:=3) (cap:=3) [] ⟨Nat.le_refl _,by decide⟩ rfl (by decide) (by first|exact zb2|assumption) fun h2 le2 s2 f2=>?_;have p1:h2 b1=noC:=by rw[f2 b1 nb2.1];exact zb1
 refine Vr (bl:=[decide (a.par=b.par),decide ((a.members.length:Int)=b.members.length),Vb a.pool b.pool]) _ s2 (by simp) ?_;refine xkp (Za.forget le2) ?_;simp only[List.nil_append];have hk2:=hk h2 le2;rw[e0]at hk2
 cases hB:([decide (a.par=b.par),decide ((a.members.length:Int)=b.members.length),Vb a.pool b.pool]).all id with
 | false =>
  rw[hB]at hk2;refine xx ?_;exact ZO (ZP hk2)
 | true =>
  rw[hB,Bool.true_and]at hk2;simp only[List.all_cons,List.all_nil,id,Bool.and_true,Bool.and_eq_true,decide_eq_true_eq]at hB;have hl:a.members.length=b.members.length:=by have:=hB.2.1;omega
  obtain⟨a1,c1,e1,g1,g2,_,hda⟩:=(hv0.m.up le2).open;obtain⟨a2,c2,e2,g3,g4,_,hdb⟩:=(hu0.m.up le2).open;injection e1 with e11 _ e13
  injection e2 with e21 _ e23
  subst e11 e13 e21 e23;refine xx ?_;refine Wj (0:Nat) (fun k=>k≤b.members.length∧∀j,j<k→(gr ZR b.members j).status=2→(gr ZR a.members j).status=2) (fun k=>[(38,.int .i64 k),(37,.int .i64 b.members.length),(36,.slice ma2 b.members.length mc2),(1,.pointer (some ⟨b1,0,none⟩))]) (fun k=>b.members.length-k) ?_ ?_ ?_
  ·exact⟨Nat.zero_le _,fun j hj=>by omega⟩
  ·simp [Ent,List.lookup,Y5]
  rintro k ⟨k1,k2⟩;by_cases d1:k<b.members.length
  ·simp -dsimp -implicitDefEqProofs (disch:=first|with_reducible assumption|omega) [go_sem,↓WV ZR (by decide) hdb,Ym];refine Z0 fun b4 nb4 zb4=>?_;(try simp only[ZT]at nb4);have n41:=nb4.1;refine xx ?_;by_cases d2:(gr ZR b.members k).status=2
   ·have fe:∀(L:Own) (K:Value→Prop) (t:Zo K),J1 L h2 (GJ ma (k*6+5)) 0 K t=K (.int .i64 (gr ZR a.members k).status):=fun L K t=>hda.fld ZR (by omega) (o:=5) rfl L K t;by_cases d3:(gr ZR a.members k).status=2
    ·simp -dsimp -implicitDefEqProofs (disch:=first|with_reducible assumption|omega) [go_sem,↓WV ZR (by decide) hda,Ym,↓fe];refine⟨k+1,⟨by omega,fun j hj=>?_⟩,by omega,by simp [Ent,List.lookup],Za.tail _ _ _⟩;by_cases e:j=k
     ·subst e;exact fun _=>d3
     ·exact k2 j (by omega)
    ·simp -dsimp -implicitDefEqProofs (disch:=first|with_reducible assumption|omega) [go_sem,↓WV ZR (by decide) hda,Ym,↓fe];have e:Zvq a b=false:=by
      rw[Zvq,decide_eq_false_iff_not];exact fun x=>d3 (x k d1 d2)
     rw[e]at hk2;exact ZO (ZO (ZP hk2))
   ·simp -dsimp -implicitDefEqProofs (disch:=first|with_reducible assumption|omega) [go_sem,Ym];refine⟨k+1,⟨by omega,fun j hj=>?_⟩,by omega,by simp [Ent,List.lookup],Za.tail _ _ _⟩;by_cases e:j=k
    ·subst e;exact fun x=>absurd x d2
    ·exact k2 j (by omega)
  ·have e:Zvq a b=true:=by
    rw[Zvq,decide_eq_true_eq];exact fun j hj=>k2 j (by omega)
   rw[e]at hk2;refine xx ?_;exact ZO (ZP hk2)
theorem Zqu {a b:Ze}{v u:SV}{r:Zf}{q:RV}(H:ZL h a b v u r q)(hk:∀h',PH.le h h'→K (.bool (WG a b)) L h'):Zb prog 123 [Zin a b v u r q] L h K:=by
 obtain⟨_,_,la,_⟩:=YS H.fa;obtain⟨_,_,lb,_⟩:=YS H.fb;have hv:=H.ha;have hv0:=H.ha;have hu:=H.hb;have hu0:=H.hb;have hr:=H.hr;obtain⟨pa,pc,ma,mc,ea,ec,xa,xc,oa,oc,da,dc,ta,tc,ka,kc,ra,rc,rfl⟩:=hv.slices;obtain⟨pa2,pc2,ma2,mc2,ea2,ec2,xa2,xc2,oa2,oc2,da2,dc2,ta2,tc2,ka2,kc2,ra2,rc2,rfl⟩:=hu.slices;obtain⟨qoa,qoc,qla,qlc,qsa,qsc,qda,qdc,rfl⟩:=hr.sl;clear hv hu hr;have hk0:=hk h (PH.le_refl h);refine ZS func123 rfl (rs:=[_]) rfl rfl ZY (by kernel_rfl) rfl rfl ?_;refine xx ?_;refine Z0 fun b1 nb1 zb1=>?_;(try simp only[ZT]at nb1);simp -dsimp -implicitDefEqProofs (disch:=first|with_reducible assumption|omega) [go_sem,Yic];by_cases hp:a.par=b.par
 rotate_left
 ·rw[WG,decide_eq_false hp]at hk0;refine xx ?_;exact ZO (ZP hk0)
 by_cases hl:b.members.length<a.members.length
 ·rw[WG,decide_eq_true hp,decide_eq_false (show ¬a.members.length≤b.members.length by omega)]at hk0;refine xx ?_;exact ZO (ZP hk0)
 have e0:WG a b=Zts a b:=by rw[WG,decide_eq_true hp,decide_eq_true (show a.members.length≤b.members.length by omega)];rfl
 rw[e0]at hk;clear e0 hk0;refine xx ?_;refine Yq (γ:=Nat×PH) (0,h) (fun y=>y.1≤a.members.length∧PH.le h y.2∧y.2 b1=noC∧∀j,j<y.1→AuM a b j) (fun y=>[(26,.int .i64 y.1),(25,.int .i64 a.members.length),(24,.slice ma a.members.length mc),(1,.pointer (some ⟨b1,0,none⟩))])
  (fun _=>⟨b1,182,[.int .u64 a.par.inc,.int .u64 a.par.maxEff,.int .u64 a.par.floor,.int .u64 a.par.cap,.int .u64 a.par.up,.int .u64 a.par.down,.int .u64 a.par.bias,.int .u64 a.par.quot,.int .u64 a.par.biasEm,.int .u64 a.par.quotEm,.int .u64 a.par.recover,.int .u64 a.par.scoreCap,.int .u64 a.par.rate,.int .u64 a.par.bond,.int .i64 a.par.delay,.int .i64 a.par.streak,.int .i64 a.par.boost,.int .i64 a.par.absent,.int .i64 a.par.burn,.int .i64 a.par.churn,.int .i64 a.par.wait,.int .i64 a.par.poll,.int .i64 a.par.enact,.int .i64 a.par.quorum,.int .u64 a.most,.int .u64 a.gen,.int .u64 a.mint,.int .u64 a.burn,.int .u64 a.treas,.int .i64 a.ep,.int .i64 a.calm,.bool a.emer,.slice pa a.purses.length pc,.slice ma a.members.length mc,.slice ea a.entry.length ec,.slice xa a.exit.length xc,.slice oa a.pool.length oc,.slice da a.dues.length dc,.slice ta a.motions.length tc,.slice ka a.marks.length kc,.slice ra a.ring.length rc,.int .u64 b.par.inc,.int .u64 b.par.maxEff,.int .u64 b.par.floor,.int .u64 b.par.cap,.int .u64 b.par.up,.int .u64 b.par.down,.int .u64 b.par.bias,.int .u64 b.par.quot,.int .u64 b.par.biasEm,.int .u64 b.par.quotEm,.int .u64 b.par.recover,.int .u64 b.par.scoreCap,.int .u64 b.par.rate,.int .u64 b.par.bond,.int .i64 b.par.delay,.int .i64 b.par.streak,.int .i64 b.par.boost,.int .i64 b.par.absent,.int .i64 b.par.burn,.int .i64 b.par.churn,.int .i64 b.par.wait,.int .i64 b.par.poll,.int .i64 b.par.enact,.int .i64 b.par.quorum,.int .u64 b.most,.int .u64 b.gen,.int .u64 b.mint,.int .u64 b.burn,.int .u64 b.treas,.int .i64 b.ep,.int .i64 b.calm,.bool b.emer,.slice pa2 b.purses.length pc2,.slice ma2 b.members.length mc2,.slice ea2 b.entry.length ec2,.slice xa2 b.exit.length xc2,.slice oa2 b.pool.length oc2,.slice da2 b.dues.length dc2,.slice ta2 b.motions.length tc2,.slice ka2 b.marks.length kc2,.slice ra2 b.ring.length rc2,.int .i64 r.ep,.int .i64 r.mode,.bool r.quo,.int .u64 r.pres,.int .u64 r.act,.int .u64 r.mint,.int .u64 r.paid,.int .u64 r.kept,.int .u64 r.burned,.int .u64 r.fees,.slice qoa r.out.length qoc,.slice qla r.left.length qlc,.slice qsa r.started.length qsc,.slice qda r.done.length qdc],96⟩::L) (fun y=>y.2) (fun y=>a.members.length-y.1) ?_ ?_ ?_ ?_
 ·exact⟨Nat.zero_le _,PH.le_refl _,zb1,fun j hj=>by omega⟩
 ·simp [Ent,List.lookup,Y5]
 ·exact Za.refl _ _
 rintro⟨k,h1⟩ ⟨k1,le1,p1,k2⟩;simp only at k1 le1 p1 k2 ⊢;obtain⟨a1,c1,e1,g1,g2,_,hda⟩:=(hv0.m.up le1).open;obtain⟨a2,c2,e2,g3,g4,_,hdb⟩:=(hu0.m.up le1).open;injection e1 with e11 _ e13
 injection e2 with e21 _ e23
 subst e11 e13 e21 e23;by_cases d1:k<a.members.length
 ·simp -dsimp -implicitDefEqProofs (disch:=first|with_reducible assumption|omega) [go_sem,↓WV ZR (by decide) hda,Ym];refine Z0 fun b4 nb4 zb4=>?_;(try simp only[ZT]at nb4);have n41:=nb4.1;simp -dsimp -implicitDefEqProofs (disch:=first|with_reducible assumption|omega) [go_sem,Ym];by_cases d2:(gr ZR a.members k).status=2
  rotate_left
  ·simp -dsimp -implicitDefEqProofs (disch:=first|with_reducible assumption|omega) [go_sem,Ym];refine⟨k+1,h1,⟨by omega,le1,p1,fun j hj=>?_⟩,by omega,by simp [Ent,List.lookup],Za.tail _ _ _⟩;by_cases e:j=k
   ·subst e;exact fun x=>absurd x d2
   ·exact k2 j (by omega)
  simp -dsimp -implicitDefEqProofs (disch:=first|with_reducible assumption|omega) [go_sem,Ym];refine GH (bs:=a.marks) _ k (hv0.k.up le1) (by omega) ?_
  cases d3:WU a.marks (k:Int) with
  | false =>
   simp -dsimp -implicitDefEqProofs (disch:=first|with_reducible assumption|omega) [go_sem,Ym];refine⟨k+1,h1,⟨by omega,le1,p1,fun j hj=>?_⟩,by omega,by simp [Ent,List.lookup],Za.tail _ _ _⟩;by_cases e:j=k
   ·subst e;exact fun _ x=>by rw[d3]at x;cases x
   ·exact k2 j (by omega)
  | true =>
  simp -dsimp -implicitDefEqProofs (disch:=first|with_reducible assumption|omega) [go_sem,↓WV ZR (by decide) hdb,Ym];refine Z0 fun b5 nb5 zb5=>?_;(try simp only[ZT]at nb5);have n54:=nb5.1;have n51:=nb5.2.1;simp -dsimp -implicitDefEqProofs (disch:=first|with_reducible assumption|omega) [go_sem,Ym];refine Yi (.tk 2 (.tk 3 (.tk 5 (.tk 6 (.tk 9 (.tk 10 (.tk 12 (.tk 13 (.tkl 0 (.tkl 4 (.tkl 7 (.tk 8 (.tkl 11 (.tkl 14 (.tk 15 (.o1 1 (.o1 16 (.o1 17 (.tk 18 (.fin)) (.nil)) (.nil)) (.nil))))))))))))))))) (by kernel_rfl) (by kernel_rfl) _ (Za.refl _ _) ?_;simp -dsimp -implicitDefEqProofs (disch:=first|with_reducible assumption|omega) [go_sem,Ym];refine VG (gr ZR b.members k) ?_;simp -dsimp -implicitDefEqProofs (disch:=first|with_reducible assumption|omega) [go_sem,Ym];refine Z0 fun b6 nb6 zb6=>?_;(try simp only[ZT]at nb6);refine xkp (Za.tail _ _ _) ?_;simp -dsimp -implicitDefEqProofs (disch:=first|with_reducible assumption|omega) [go_sem,Ym];refine Yg (sz:=1) (n:=3) (cap:=3) [] ⟨Nat.le_refl _,by decide⟩ rfl (by decide) (by first|exact zb6|assumption) fun h2 le2 s2 f2=>?_;have p21:h2 b1=noC:=by rw[f2 b1 (by have:=nb6;simp only[ne_eq]at this;exact this.2.2.1)];exact p1
  refine Vr (bl:=[decide ((gr ZR b.members k).status=2)||decide ((gr ZR b.members k).status=3),decide ((gr ZR a.members k).bal≤(gr ZR b.members k).bal),decide ((gr ZR a.members k).streak≤(gr ZR b.members k).streak)]) _ s2 (by simp) ?_;refine xkp (Za.forget le2) ?_;simp only[List.nil_append]
  cases hB:([decide ((gr ZR b.members k).status=2)||decide ((gr ZR b.members k).status=3),decide ((gr ZR a.members k).bal≤(gr ZR b.members k).bal),decide ((gr ZR a.members k).streak≤(gr ZR b.members k).streak)]).all id with
  | true =>
   simp only[List.all_cons,List.all_nil,id,Bool.and_true,Bool.and_eq_true,Bool.or_eq_true,decide_eq_true_eq]at hB;simp -dsimp -implicitDefEqProofs (disch:=first|with_reducible assumption|omega) [go_sem,Ym];refine⟨k+1,h2,⟨by omega,le1.trans le2,p21,fun j hj=>?_⟩,by omega,by simp [Ent,List.lookup],(Za.tail _ _ _).trans (Za.tail _ _ _)⟩;by_cases e:j=k
   ·subst e;exact fun _ _=>hB
   ·exact k2 j (by omega)
  | false =>
   have hn:¬AuM a b k:=fun x=>by
    obtain⟨x1,x2,x3⟩:=x d2 d3;have:([decide ((gr ZR b.members k).status=2)||decide ((gr ZR b.members k).status=3),decide ((gr ZR a.members k).bal≤(gr ZR b.members k).bal),decide ((gr ZR a.members k).streak≤(gr ZR b.members k).streak)]).all id=true:=by
     simp only[List.all_cons,List.all_nil,id,Bool.and_true,Bool.and_eq_true,Bool.or_eq_true,decide_eq_true_eq];exact⟨x1,x2,x3⟩
    rw[this]at hB;cases hB
   have e:Zts a b=false:=by
    rw[Zts,decide_eq_false_iff_not];exact fun x=>hn (x k d1)
   rw[e]at hk;simp -dsimp -implicitDefEqProofs (disch:=first|with_reducible assumption|omega) [go_sem,Ym];exact ZO (ZO (ZO (ZP (hk h2 (le1.trans le2)))))
 ·have e:Zts a b=true:=by
   rw[Zts,decide_eq_true_eq];exact fun j hj=>k2 j (by omega)
  rw[e]at hk;refine xx ?_;exact ZO (ZP (hk h1 le1))
end Go.X
set_option maxRecDepth 400000
namespace Go.X
open Go.RowKit Go.Proofs Go.Bl Go.Proofs.Tryz
variable {L:Own} {h:PH} {K:PK}
def Yfb:List Bool→Int→Int
 | [],_=>0
 | b::l,k=>if b=true then Yfb l (k+1) else k+1
theorem Yba:∀ (bl:List Bool)(i:Int)(k:Nat),k<bl.length→(∀j,j<k→bol bl j=true)→bol bl k=false→Yfb bl i=i+k+1
 | [],_,_,h,_,_=>by simp at h
 | b::l,i,0,_,_,hn=>by
  have:b=false:=by simpa [bol] using hn
  rw[Yfb,this,if_neg (by decide)];simp
 | b::l,i,k+1,hk,ha,hn=>by
  have h0:b=true:=by simpa [bol] using ha 0 (by omega)
  rw[Yfb,if_pos h0,Yba l (i+1) k (by simpa using hk) (fun j hj=>by simpa [bol] using ha (j+1) (by omega)) (by simpa [bol] using hn)];omega
theorem Zpz:∀ (bl:List Bool)(i:Int),(∀j,j<bl.length→bol bl j=true)→Yfb bl i=0
 | [],_,_=>rfl
 | b::l,i,ha=>by
  have h0:b=true:=by simpa [bol] using ha 0 (by simp)
  rw[Yfb,if_pos h0,Zpz l (i+1) (fun j hj=>by simpa [bol] using ha (j+1) (by simpa using hj))]
theorem Zhe (a b:Ze)(r:Zf):YX a b r=Yfb [Yb a&&Yb b,WO a b r,Ud a b r,WZ a r,UW a b r,Wv a b r,WG a b] 0:=by
 unfold YX;simp only[Yfb]
 cases (Yb a&&Yb b)<;>cases WO a b r<;>cases Ud a b r<;>cases WZ a r<;>cases UW a b r<;>cases Wv a b r<;>cases WG a b<;>rfl
def funV (cl:Nat)(fi ca:List Value):Value := .func (.func cl) fi.toArray ca.toArray
theorem Zse {bl:List Bool}(cl:Nat→Nat)(fi ca:Nat→List Value)(v:Value)(sl:Sl h v bl.length 1 ((List.range bl.length).map fun j=>funV (cl j) (fi j) (ca j)))(hl:bl.length≤100)
  (hc:∀k,k<bl.length→(∀j,j<k→bol bl j=true)→∀h1 K1,PH.le h h1→Ap L h1→(∀h2,PH.le h1 h2→K1 (.bool (bol bl k)) L h2)→Zb prog (cl k) (fi k++ca k) L h1 K1)
  (hk:∀h1,PH.le h h1→K (.int .i64 (Yfb bl 0)) L h1):Zb prog 117 [v] L h K:=by
 obtain⟨_,a,c,rfl,hcap,hln,hna,_,hcs⟩:=sl;have hcs2:∀j,j<bl.length→Z8 h a j=some (.func (.func (cl j)) (fi j).toArray (ca j).toArray):=fun j hj=>by
  have:=hcs j (funV (cl j) (fi j) (ca j)) (by rw[List.getElem?_map,List.getElem?_range hj];rfl);exact this
 refine Z9 func117 rfl (rs:=[_]) rfl rfl ZY (by kernel_rfl) rfl rfl fun ap nd=>?_;clear nd;refine xx ?_;refine Yq (γ:=Nat×PH) (0,h) (fun y=>y.1≤bl.length∧PH.le h y.2∧Ap L y.2∧∀j,j<y.1→bol bl j=true) (fun y=>[(7,.int .i64 y.1),(6,.int .i64 bl.length),(5,.slice a bl.length c)]) (fun _=>L) (fun y=>y.2) (fun y=>bl.length-y.1) ?_ ?_ ?_ ?_
 ·exact⟨Nat.zero_le _,PH.le_refl _,ap,fun j hj=>by omega⟩
 ·simp [Ent,List.lookup,Y5]
 ·exact Za.refl _ _
 clear ap;rintro⟨k,h1⟩ ⟨k1,le1,ap1,k2⟩;simp only at k1 le1 ap1 k2 ⊢;by_cases d:k<bl.length
 ·have hcs3:∀j,j<bl.length→Z8 h1 a j=some ((fun j=>Value.func (.func (cl j)) (fi j).toArray (ca j).toArray) j):=fun j hj=>Y4 le1 (hcs2 j hj);simp -dsimp -implicitDefEqProofs (disch:=first|with_reducible assumption|omega) [go_sem,idx hcs3];refine Zb.ap (hc k d k2 h1 _ le1 ap1 fun h2 le2 ap2=>?_)
  cases hb:bol bl k with
  | true =>
   refine xx ?_;refine⟨k+1,h2,⟨by omega,le1.trans le2,ap2,fun j hj=>?_⟩,by omega,by simp [Ent,List.lookup],Za.refl _ _⟩;by_cases e:j=k
   ·subst e;exact hb
   ·exact k2 j (by omega)
  | false =>
   have hk2:=hk h2 (le1.trans le2);rw[Yba bl 0 k d k2 hb,Int.zero_add]at hk2;refine xx ?_;exact ZP hk2
 ·rw[Zpz bl 0 (fun j hj=>k2 j (by omega))]at hk;refine xx ?_;exact ZP (hk h1 le1)
theorem Ybx {a b:Ze}{v u:SV}{b3 b4:Nat}(ha:Zn h v a)(hb:Zn h u b)(fa:Zw a)(fb:Zw b)(p3:h b3=noC)(p4:h b4=noC)(n43:b4≠b3)
  (hk:K (.bool (Yb a&&Yb b)) (⟨b4,34,stC b u,41⟩::⟨b3,34,stC a v,41⟩::L) h) :
  Zb prog 116 [.pointer (some ⟨b3,0,none⟩),.pointer (some ⟨b4,0,none⟩)] (⟨b4,34,stC b u,41⟩::⟨b3,34,stC a v,41⟩::L) h K:=by
 have ha0:=ha;have hb0:=hb;obtain⟨pa,pc,ma,mc,ea,ec,xa,xc,oa,oc,da,dc,ta,tc,ka,kc,ra,rc,rfl⟩:=ha.slices;obtain⟨pa2,pc2,ma2,mc2,ea2,ec2,xa2,xc2,oa2,oc2,da2,dc2,ta2,tc2,ka2,kc2,ra2,rc2,rfl⟩:=hb.slices;refine ZS func116 rfl (rs:=[_]) rfl rfl ZY (by kernel_rfl) rfl rfl ?_;refine xx ?_;refine Ut (s:=a) ⟨.slice pa a.purses.length pc,.slice ma a.members.length mc,.slice ea a.entry.length ec,.slice xa a.exit.length xc,.slice oa a.pool.length oc,.slice da a.dues.length dc,.slice ta a.motions.length tc,.slice ka a.marks.length kc,.slice ra a.ring.length rc⟩ ha0 fa ?_
 cases hfa:Yb a with
 | false =>
  rw[hfa,Bool.false_and]at hk;refine xx ?_;exact ZP hk
 | true =>
  rw[hfa,Bool.true_and]at hk;refine xx ?_;refine Ut (s:=b) ⟨.slice pa2 b.purses.length pc2,.slice ma2 b.members.length mc2,.slice ea2 b.entry.length ec2,.slice xa2 b.exit.length xc2,.slice oa2 b.pool.length oc2,.slice da2 b.dues.length dc2,.slice ta2 b.motions.length tc2,.slice ka2 b.marks.length kc2,.slice ra2 b.ring.length rc2⟩ hb0 fb ?_;refine xx ?_;exact ZP hk
theorem Un {a b:Ze}{v u:SV}{r:Zf}{q:RV}(ha:Zn h v a)(hb:Zn h u b)(hr:Zv h q r)(ok:Zz r)(fa:Zw a)(fb:Zw b)(hk:∀h',PH.le h h'→K (.int .i64 (YX a b r)) L h'):Zb prog 31 [stV a v,stV b u,rpV r q] L h K:=by
 have ha0:=ha;have hb0:=hb;have hr0:=hr;rw[Zhe]at hk;obtain⟨pa,pc,ma,mc,ea,ec,xa,xc,oa,oc,da,dc,ta,tc,ka,kc,ra,rc,rfl⟩:=ha.slices;obtain⟨pa2,pc2,ma2,mc2,ea2,ec2,xa2,xc2,oa2,oc2,da2,dc2,ta2,tc2,ka2,kc2,ra2,rc2,rfl⟩:=hb.slices;obtain⟨qoa,qoc,qla,qlc,qsa,qsc,qda,qdc,rfl⟩:=hr.sl;refine ZS func31 rfl (rs:=[_]) rfl rfl ZY (by kernel_rfl) rfl rfl ?_;refine xx ?_;refine Z0 fun b3 nb3 zb3=>?_;(try simp only[ZT]at nb3);refine xx ?_;refine Z0 fun b4 nb4 zb4=>?_;(try simp only[ZT]at nb4);have n43:=nb4.1;refine xx ?_;refine Z0 fun b5 nb5 zb5=>?_;(try simp only[ZT]at nb5);have n54:=nb5.1;have n53:=nb5.2.1;clear nb4 nb5;refine xx ?_;refine Z0 fun b7 nb7 zb7=>?_;(try simp only[ZT]at nb7);have n75:=nb7.1;have n74:=nb7.2.1;have n73:=nb7.2.2.1;clear nb7;refine xx ?_;refine Z0 fun b27 nb27 zb27=>?_;(try simp only[ZT]at nb27);have m7:=nb27.1;have m5:=nb27.2.1;have m4:=nb27.2.2.1;have m3:=nb27.2.2.2.1;clear nb27;refine xx ?_
 have hX:Value.agg #[.int .u64 a.par.inc,.int .u64 a.par.maxEff,.int .u64 a.par.floor,.int .u64 a.par.cap,.int .u64 a.par.up,.int .u64 a.par.down,.int .u64 a.par.bias,.int .u64 a.par.quot,.int .u64 a.par.biasEm,.int .u64 a.par.quotEm,.int .u64 a.par.recover,.int .u64 a.par.scoreCap,.int .u64 a.par.rate,.int .u64 a.par.bond,.int .i64 a.par.delay,.int .i64 a.par.streak,.int .i64 a.par.boost,.int .i64 a.par.absent,.int .i64 a.par.burn,.int .i64 a.par.churn,.int .i64 a.par.wait,.int .i64 a.par.poll,.int .i64 a.par.enact,.int .i64 a.par.quorum,.int .u64 a.most,.int .u64 a.gen,.int .u64 a.mint,.int .u64 a.burn,.int .u64 a.treas,.int .i64 a.ep,.int .i64 a.calm,.bool a.emer,.slice pa a.purses.length pc,.slice ma a.members.length mc,.slice ea a.entry.length ec,.slice xa a.exit.length xc,.slice oa a.pool.length oc,.slice da a.dues.length dc,.slice ta a.motions.length tc,.slice ka a.marks.length kc,.slice ra a.ring.length rc,.int .u64 b.par.inc,.int .u64 b.par.maxEff,.int .u64 b.par.floor,.int .u64 b.par.cap,.int .u64 b.par.up,.int .u64 b.par.down,.int .u64 b.par.bias,.int .u64 b.par.quot,.int .u64 b.par.biasEm,.int .u64 b.par.quotEm,.int .u64 b.par.recover,.int .u64 b.par.scoreCap,.int .u64 b.par.rate,.int .u64 b.par.bond,.int .i64 b.par.delay,.int .i64 b.par.streak,.int .i64 b.par.boost,.int .i64 b.par.absent,.int .i64 b.par.burn,.int .i64 b.par.churn,.int .i64 b.par.wait,.int .i64 b.par.poll,.int .i64 b.par.enact,.int .i64 b.par.quorum,.int .u64 b.most,.int .u64 b.gen,.int .u64 b.mint,.int .u64 b.burn,.int .u64 b.treas,.int .i64 b.ep,.int .i64 b.calm,.bool b.emer,.slice pa2 b.purses.length pc2,.slice ma2 b.members.length mc2,.slice ea2 b.entry.length ec2,.slice xa2 b.exit.length xc2,.slice oa2 b.pool.length oc2,.slice da2 b.dues.length dc2,.slice ta2 b.motions.length tc2,.slice ka2 b.marks.length kc2,.slice ra2 b.ring.length rc2,.int .i64 r.ep,.int .i64 r.mode,.bool r.quo,.int .u64 r.pres,.int .u64 r.act,.int .u64 r.mint,.int .u64 r.paid,.int .u64 r.kept,.int .u64 r.burned,.int .u64 r.fees,.slice qoa r.out.length qoc,.slice qla r.left.length qlc,.slice qsa r.started.length qsc,.slice qda r.done.length qdc]=Zin a b ⟨.slice pa a.purses.length pc,.slice ma a.members.length mc,.slice ea a.entry.length ec,.slice xa a.exit.length xc,.slice oa a.pool.length oc,.slice da a.dues.length dc,.slice ta a.motions.length tc,.slice ka a.marks.length kc,.slice ra a.ring.length rc⟩ ⟨.slice pa2 b.purses.length pc2,.slice ma2 b.members.length mc2,.slice ea2 b.entry.length ec2,.slice xa2 b.exit.length xc2,.slice oa2 b.pool.length oc2,.slice da2 b.dues.length dc2,.slice ta2 b.motions.length tc2,.slice ka2 b.marks.length kc2,.slice ra2 b.ring.length rc2⟩ r ⟨.slice qoa r.out.length qoc,.slice qla r.left.length qlc,.slice qsa r.started.length qsc,.slice qda r.done.length qdc⟩:=rfl
 obtain⟨X,hXX⟩:∃X,X=Zin a b ⟨.slice pa a.purses.length pc,.slice ma a.members.length mc,.slice ea a.entry.length ec,.slice xa a.exit.length xc,.slice oa a.pool.length oc,.slice da a.dues.length dc,.slice ta a.motions.length tc,.slice ka a.marks.length kc,.slice ra a.ring.length rc⟩ ⟨.slice pa2 b.purses.length pc2,.slice ma2 b.members.length mc2,.slice ea2 b.entry.length ec2,.slice xa2 b.exit.length xc2,.slice oa2 b.pool.length oc2,.slice da2 b.dues.length dc2,.slice ta2 b.motions.length tc2,.slice ka2 b.marks.length kc2,.slice ra2 b.ring.length rc2⟩ r ⟨.slice qoa r.out.length qoc,.slice qla r.left.length qlc,.slice qsa r.started.length qsc,.slice qda r.done.length qdc⟩:=⟨_,rfl⟩
 rw[← hXX]at hX;rw[hX];clear hX;refine Yg (sz:=1) (n:=7) (cap:=7) [] ⟨Nat.le_refl _,by decide⟩ rfl (by decide) (by first|exact zb27|assumption) fun h2 le2 s2 f2=>?_;have p3:h2 b3=noC:=by rw[f2 b3 m3];exact zb3
 have p4:h2 b4=noC:=by rw[f2 b4 m4];exact zb4
 simp only[List.nil_append];refine J6 (J6 ?_);refine Zse (bl:=[Yb a&&Yb b,WO a b r,Ud a b r,WZ a r,UW a b r,Wv a b r,WG a b]) (fun j=>[116,118,119,120,121,122,123].getD j 0)
  (fun j=>if j=0 then [] else [X]) (fun j=>if j=0 then [.pointer (some ⟨b3,0,none⟩),.pointer (some ⟨b4,0,none⟩)] else []) _ s2 (by simp) ?_ ?_
 ·intro k hk7 hall h3 K1 le3 ap3 hK;have p33:h3 b3=noC:=ap3.2.1;have p34:h3 b4=noC:=ap3.1;have le23:=le2.trans le3;by_cases k0:k=0
  ·subst k0;exact Ybx (ha0.up le23) (hb0.up le23) fa fb p33 p34 n43.symm (hK h3 (PH.le_refl _))
  have hf:(Yb a&&Yb b)=true:=by simpa [bol] using hall 0 (by omega)
  rw[Bool.and_eq_true]at hf;have H:ZL h3 a b ⟨.slice pa a.purses.length pc,.slice ma a.members.length mc,.slice ea a.entry.length ec,.slice xa a.exit.length xc,.slice oa a.pool.length oc,.slice da a.dues.length dc,.slice ta a.motions.length tc,.slice ka a.marks.length kc,.slice ra a.ring.length rc⟩ ⟨.slice pa2 b.purses.length pc2,.slice ma2 b.members.length mc2,.slice ea2 b.entry.length ec2,.slice xa2 b.exit.length xc2,.slice oa2 b.pool.length oc2,.slice da2 b.dues.length dc2,.slice ta2 b.motions.length tc2,.slice ka2 b.marks.length kc2,.slice ra2 b.ring.length rc2⟩ r ⟨.slice qoa r.out.length qoc,.slice qla r.left.length qlc,.slice qsa r.started.length qsc,.slice qda r.done.length qdc⟩:=⟨ha0.up le23,hb0.up le23,⟨hr0.o.up le23,hr0.l.up le23,hr0.s.up le23,hr0.d.up le23⟩,ok,hf.1,hf.2⟩
  by_cases k1:k=1
  ·subst k1 hXX;exact Zvt H hK
  by_cases k1:k=2
  ·subst k1 hXX;exact Yew H hK
  by_cases k1:k=3
  ·subst k1 hXX;exact Zvb H hK
  by_cases k1:k=4
  ·subst k1 hXX;exact Ydk H hK
  by_cases k1:k=5
  ·subst k1 hXX;exact Ztn H hK
  by_cases k1:k=6
  ·subst k1 hXX;exact Zqu H hK
  ·exact absurd hk7 (by simp;omega)
 ·intro h3 le3;refine xx ?_;exact ZO (ZO (ZP (hk h3 (le2.trans le3))))
end Go.X
set_option maxRecDepth 100000
namespace Go.X
open Go.RowKit Go.Proofs Go.Bl Go.Proofs.Tryz
variable {L:Own} {h:PH} {K:PK}
def pc8 (n:Nat):Nat:=n%2+n/2%2+n/4%2+n/8%2+n/16%2+n/32%2+n/64%2+n/128%2
theorem Zju (n:Nat):n%2≤1:=by omega
theorem Zoz (n:Nat):pc8 n≤8:=by
 have h0:=Zju n;have h1:=Zju (n/2);have h2:=Zju (n/4);have h3:=Zju (n/8);have h4:=Zju (n/16);have h5:=Zju (n/32);have h6:=Zju (n/64);have h7:=Zju (n/128);unfold pc8
 generalize n%2=a0 at *
 generalize n/2%2=a1 at *
 generalize n/4%2=a2 at *
 generalize n/8%2=a3 at *
 generalize n/16%2=a4 at *
 generalize n/32%2=a5 at *
 generalize n/64%2=a6 at *
 generalize n/128%2=a7 at *
 omega
theorem Ykr {P:Program}{t:Nat}(ht:P.underlying t=some .string)(S:ByteArray)(k:IntKind)(i:Int)(hi:0≤i∧i≤255)(hS:((List.range 256).all fun j=>S[j]? == some (UInt8.ofNat (pc8 j)))=true)(K:Value→Prop)(tk:Zo K) :
  xIx P t (.string S) (.int k i) K tk=K (.int .u8 (pc8 i.toNat:Nat)):=by
 have h1:=List.all_eq_true.1 hS i.toNat (List.mem_range.2 (by omega));have h2:S[i.toNat]?=some (UInt8.ofNat (pc8 i.toNat)):=by simpa using h1
 have h3:(UInt8.ofNat (pc8 i.toNat)).toNat=pc8 i.toNat:=by
  have:=Zoz i.toNat;rw[UInt8.toNat_ofNat'];omega
 refine Yt (fun W=>?_) K;simp [Instr.index,asIntOf,underlying,ht,hi.1,h2,h3,go_sem]
theorem Ycz (x:Int)(hx:0≤x∧x≤255)(hk:K (.int .i64 (pc8 x.toNat:Nat)) L h):Zb prog 257 [.int .u8 x] L h K:=by
 have b8:=Zoz x.toNat;refine ZS func257 rfl (rs:=[_]) rfl rfl ZY (by kernel_rfl) rfl rfl ?_;refine xx ?_;rw[Ykr (by kernel_rfl) _ _ _ (by omega) (by decide +kernel)];refine xx ?_;exact ZP hk
def Zfm (bs:List Int):Nat→Nat
 | 0=>0
 | k+1=>Zfm bs k+pc8 (at0 bs k).toNat
theorem Zpi (bs:List Int):∀k,Zfm bs k≤8*k
 | 0=>Nat.le_refl _
 | k+1=>by have:=Zpi bs k;have:=Zoz (at0 bs k).toNat;rw[Zfm];omega
theorem Ydl {bs:List Int}(v:Value)(hb:Ints h .u8 v bs)(hl:bs.length≤1000)(hk:K (.int .i64 (Zfm bs bs.length:Nat)) L h):Zb prog 132 [v] L h K:=by
 have hbb:=Ymc hb;obtain⟨a,c,rfl,hcap,hln,_,hcs⟩:=hb.open;refine ZS func132 rfl (rs:=[_]) rfl rfl ZY (by kernel_rfl) rfl rfl ?_;refine xx ?_;refine Wj (0:Nat) (fun k=>k≤bs.length) (fun k=>[(8,.int .i64 k),(7,.int .i64 bs.length),(6,.slice a bs.length c),(3,.int .i64 (Zfm bs k:Nat))]) (fun k=>bs.length-k) ?_ ?_ ?_
 ·exact Nat.zero_le _
 ·simp [Ent,List.lookup,Y5,Zfm]
 rintro k k1;have hle:=Zpi bs k;by_cases c1:k<bs.length
 ·have h1:=hbb (at0 bs k) (by rw[← Yf c1];exact List.getElem_mem _);have h2:=Zoz (at0 bs k).toNat;simp -dsimp -implicitDefEqProofs (disch:=first|with_reducible assumption|omega) [go_sem,idx hcs];refine Ycz _ h1 ?_;refine xx ?_;refine⟨k+1,by omega,by omega,by simp [Ent,List.lookup,Zfm],Za.refl _ _⟩
 ·obtain rfl:k=bs.length:=by omega
  refine xx ?_;exact ZP hk
def Zlc (s:Ze)(bs:List Int):Nat→Nat
 | 0=>0
 | k+1=>Zlc s bs k+if WU bs k=false∧GA (gr ZR s.members k) then 1 else 0
theorem Zuj (s:Ze)(bs:List Int):∀k,Zlc s bs k≤k
 | 0=>Nat.le_refl _
 | k+1=>by have:=Zuj s bs k;rw[Zlc];split<;>omega
abbrev othO (s:Ze)(bs:List Int)(k:Nat):Prop:=∀j,j<k→WU bs (j:Int)=true→(gr ZR s.members j).status=2
def Yvr (s:Ze)(bs:List Int):Int×Int :=
 if Yb s=false then (0,291) else if JX bs s.members.length=false then (0,60) else if Zfm bs bs.length=0∨¬othO s bs s.members.length then (0,191) else ((Zlc s bs s.members.length:Int),0)
theorem Yfj {s:Ze}{bs:List Int}(v:SV)(bv:Value)(hs:Zn h v s)(few:Zw s)(hbv:Ints h .u8 bv bs)(hl:bs.length≤1000)(hk:K (.tuple #[.int .i64 (Yvr s bs).1,.int .i64 (Yvr s bs).2]) L h):Zb prog 37 [stV s v,bv] L h K:=by
 have hs0:=hs;have hbv0:=hbv;obtain⟨pa,pc,ma,mc,ea,ec,xa,xc,oa,oc,da,dc,ta,tc,ka,kc,ra,rc,rfl⟩:=hs.slices;obtain⟨ya,yc,rfl,_⟩:=hbv.open;have hm2:=few.m;refine ZS func37 rfl (rs:=[_,_]) rfl rfl ZY (by kernel_rfl) rfl rfl ?_;refine xx ?_;refine Z0 fun b2 nb2 zb2=>?_;(try simp only[ZT]at nb2);refine xx ?_;refine Ut (s:=s) ⟨.slice pa s.purses.length pc,.slice ma s.members.length mc,.slice ea s.entry.length ec,.slice xa s.exit.length xc,.slice oa s.pool.length oc,.slice da s.dues.length dc,.slice ta s.motions.length tc,.slice ka s.marks.length kc,.slice ra s.ring.length rc⟩ hs0 few ?_
 cases hf:Yb s with
 | false =>
  rw[Yvr,if_pos hf]at hk;refine xx ?_;exact ZO (ZP hk)
 | true =>
 rw[Yvr,if_neg (by rw[hf];decide)]at hk;refine xx ?_;refine Zfk (bs:=bs) _ _ hbv0 (by omega) (by omega) ?_
 cases hc:JX bs s.members.length with
 | false =>
  rw[if_pos hc]at hk;refine xx ?_;exact ZO (ZP hk)
 | true =>
 rw[if_neg (by rw[hc];decide)]at hk;refine xx ?_;refine Ydl _ hbv0 hl ?_;by_cases c0:Zfm bs bs.length=0
 ·rw[if_pos (.inl c0)]at hk;refine xx ?_;exact ZO (ZP hk)
 refine xx ?_;obtain⟨a1,c1,e1,g1,g2,_,hda⟩:=hs0.m.open;injection e1 with e11 _ e13
 subst e11 e13;refine Wj (0:Nat) (fun k=>k≤s.members.length∧othO s bs k) (fun k=>[(28,.int .i64 k),(27,.int .i64 s.members.length),(26,.slice ma s.members.length mc),(6,.int .i64 (Zlc s bs k:Nat)),(1,.slice ya bs.length yc)]) (fun k=>s.members.length-k) ?_ ?_ ?_
 ·exact⟨Nat.zero_le _,fun j hj=>by omega⟩
 ·simp [Ent,List.lookup,Y5,Zlc]
 rintro k ⟨k1,k2⟩;have hle:=Zuj s bs k;by_cases d1:k<s.members.length
 ·simp -dsimp -implicitDefEqProofs (disch:=first|with_reducible assumption|omega) [go_sem,↓WV ZR (by decide) hda,Ym];refine Z0 fun b8 nb8 zb8=>?_;(try simp only[ZT]at nb8);simp -dsimp -implicitDefEqProofs (disch:=first|with_reducible assumption|omega) [go_sem,Ym];refine GH (bs:=bs) _ k hbv0 (by omega) ?_
  cases hg:WU bs (k:Int) with
  | true =>
   have eN:Zlc s bs (k+1)=Zlc s bs k:=by rw[Zlc,if_neg (fun x=>by rw[hg]at x;cases x.1)];rfl
   by_cases d2:(gr ZR s.members k).status=2
   ·simp -dsimp -implicitDefEqProofs (disch:=first|with_reducible assumption|omega) [go_sem,Ym];refine⟨k+1,⟨by omega,fun j hj hj2=>?_⟩,by omega,by simp [Ent,List.lookup,eN],Za.tail _ _ _⟩;by_cases e:j=k
    ·subst e;exact d2
    ·exact k2 j (by omega) hj2
   ·rw[if_pos (.inr (fun x=>d2 (x k d1 hg)))]at hk;simp -dsimp -implicitDefEqProofs (disch:=first|with_reducible assumption|omega) [go_sem,Ym];exact ZO (ZO (ZP hk))
  | false =>
   have k3:othO s bs (k+1):=fun j hj hj2=>by
    by_cases e:j=k
    ·subst e;rw[hg]at hj2;cases hj2
    ·exact k2 j (by omega) hj2
   simp -dsimp -implicitDefEqProofs (disch:=first|with_reducible assumption|omega) [go_sem,Ym];refine VG (gr ZR s.members k) ?_;by_cases d2:(gr ZR s.members k).status=2∨(gr ZR s.members k).status=3
   ·have eN:Zlc s bs (k+1)=Zlc s bs k+1:=by rw[Zlc,if_pos ⟨hg,d2⟩]
    rw[decide_eq_true d2];refine xx ?_;exact⟨k+1,⟨by omega,k3⟩,by omega,by simp [Ent,List.lookup,eN],Za.tail _ _ _⟩
   ·have eN:Zlc s bs (k+1)=Zlc s bs k:=by rw[Zlc,if_neg (fun x=>d2 x.2)];rfl
    rw[decide_eq_false d2];refine xx ?_;exact⟨k+1,⟨by omega,k3⟩,by omega,by simp [Ent,List.lookup,eN],Za.tail _ _ _⟩
 ·obtain rfl:k=s.members.length:=by omega
  rw[if_neg (fun x=>x.elim c0 (fun y=>y k2))]at hk;refine xx ?_;exact ZO (ZP hk)
end Go.X
set_option maxRecDepth 100000
namespace Go.X
open Go.RowKit Go.Proofs Go.Bl Go.Proofs.Tryz
variable {L:Own} {h:PH} {K:PK}
theorem Ydn (n e sz b o:Nat)(k:IntKind)(j:Int)(h0:0≤j)(h1:j<(n:Int))(K:Value→Prop)(t:Zo K) :
  xIA (.ar n e sz) (.pointer (some ⟨b,o,none⟩)) (.int k j) K t=K (.pointer (some ⟨b,o+j.toNat*sz,none⟩)):=by
 apply propext;constructor
 ·rintro⟨q,k',j',e1,e2,_,_,hk⟩
  cases e1;cases e2
  rw[Vt]at hk;exact hk
 ·intro hk;exact⟨_,_,_,rfl,rfl,h0,h1,by rw[Vt];exact hk⟩
theorem Zaz (S:ByteArray):(Value.string S).oneCell'=true:=rfl
def Ycs (rule:Int):ByteArray:=if rule=1 then ⟨#[102,105,116]⟩ else if rule=2 then ⟨#[116,105,109,101]⟩ else if rule=3 then ⟨#[115,117,112,112,108,121]⟩ else if rule=4 then ⟨#[109,105,110,116]⟩ else if rule=5 then ⟨#[113,117,111,114,117,109]⟩ else if rule=6 then ⟨#[115,116,105,108,108]⟩ else if rule=7 then ⟨#[116,104,101,114,101]⟩ else ⟨#[]⟩
theorem Zpo {rule:Int}(h:rule<0∨8≤rule):Ycs rule=⟨#[]⟩:=by
 unfold Ycs;rw[if_neg (by omega),if_neg (by omega),if_neg (by omega),if_neg (by omega),if_neg (by omega),if_neg (by omega),if_neg (by omega)]
theorem Yds (rule:Int)(hk:K (.string (Ycs rule)) L h):Zb prog 35 [.int .i64 rule] L h K:=by
 refine ZS func35 rfl (rs:=[_]) rfl rfl ZY (by kernel_rfl) rfl rfl ?_;simp -dsimp -implicitDefEqProofs (disch:=first|with_reducible assumption|omega) [go_sem,Zaz];refine Z0 fun b3 nb3 zb3=>?_;(try simp only[ZT]at nb3);have hc:rule<0∨8≤rule∨rule=0∨rule=1∨rule=2∨rule=3∨rule=4∨rule=5∨rule=6∨rule=7:=by omega
 by_cases c:rule<0
 ·rw[Zpo (.inl c)]at hk;simp -dsimp -implicitDefEqProofs (disch:=first|with_reducible assumption|omega) [go_sem,Zaz];exact ZO (ZP hk)
 by_cases c2:8≤rule
 ·rw[Zpo (.inr c2)]at hk;simp -dsimp -implicitDefEqProofs (disch:=first|with_reducible assumption|omega) [go_sem,Zaz];exact ZO (ZP hk)
 simp -dsimp -implicitDefEqProofs (disch:=first|with_reducible assumption|omega) [go_sem,Ydn,Zaz];rcases hc with c|c|rfl|rfl|rfl|rfl|rfl|rfl|rfl|rfl
 ·omega
 ·omega
 all_goals
  simp -dsimp -implicitDefEqProofs (disch:=first|with_reducible assumption|omega) [go_sem,Zaz];exact ZO (ZP hk)
theorem Yfl (p q:Zd)(x y:Operand)(K:Value→Prop)(t:Zo K):VW prog .neq 44 x y (Vp p) (Vp q) K t=K (.bool (!decide (p=q))):=by
 have e:decide (p=q)=decide (Yy p++Yo p=Yy q++Yo q):=by
  rw[decide_eq_decide];exact⟨fun h=>by rw[h],Zlt⟩
 rw[e];exact Jc (T:=44) (ks:=Weu) (by kernel_rfl) (by kernel_rfl) (by kernel_rfl) (by kernel_rfl) (Yy p++Yo p) (Yy q++Yo q) rfl rfl x y K t
theorem Zsh {a b:Ze}{v u:SV}{r:Zf}{q:RV}(H:ZL h a b v u r q)(hk:K (.bool (WO a b r)) L h):Zb prog 124 [stV a v,stV b u,rpV r q] L h K:=by
 obtain⟨ea,_,_,_⟩:=YS H.fa;obtain⟨eb,_,_,_⟩:=YS H.fb;have hv:=H.ha;have hu:=H.hb;have hr:=H.hr;obtain⟨pa,pc,ma,mc,ea,ec,xa,xc,oa,oc,da,dc,ta,tc,ka,kc,ra,rc,rfl⟩:=hv.slices;obtain⟨pa2,pc2,ma2,mc2,ea2,ec2,xa2,xc2,oa2,oc2,da2,dc2,ta2,tc2,ka2,kc2,ra2,rc2,rfl⟩:=hu.slices;obtain⟨qoa,qoc,qla,qlc,qsa,qsc,qda,qdc,rfl⟩:=hr.sl;clear hv hu hr;unfold WO at hk;refine ZS func124 rfl (rs:=[_]) rfl rfl ZY (by kernel_rfl) rfl rfl ?_;refine xx ?_;refine Z0 fun b3 nb3 zb3=>?_;(try simp only[ZT]at nb3);refine xx ?_;refine Z0 fun b4 nb4 zb4=>?_;(try simp only[ZT]at nb4);have n43:=nb4.1;refine xx ?_;refine Z0 fun b5 nb5 zb5=>?_;(try simp only[ZT]at nb5);have n54:=nb5.1;have n53:=nb5.2.1;refine xx ?_;by_cases c1:b.ep=a.ep+1
 rotate_left
 ·rw[decide_eq_false c1,Bool.false_and]at hk;refine xx ?_;exact ZO (ZO (ZO (ZP hk)))
 rw[decide_eq_true c1,Bool.true_and]at hk;by_cases c2:r.ep=a.ep
 rotate_left
 ·rw[decide_eq_false c2,Bool.false_and]at hk;refine xx ?_;exact ZO (ZO (ZO (ZP hk)))
 rw[decide_eq_true c2,Bool.true_and]at hk;by_cases c3:a.most=b.most
 rotate_left
 ·rw[decide_eq_false c3,Bool.false_and]at hk;refine xx ?_;exact ZO (ZO (ZO (ZP hk)))
 rw[decide_eq_true c3,Bool.true_and]at hk;refine xx ?_;exact ZO (ZO (ZO (ZP hk)))
theorem Zww {a b:Ze}{v u:SV}{r:Zf}{q:RV}(H:ZL h a b v u r q)(hk:∀h',PH.le h h'→K (.bool (Ud a b r)) L h'):Zb prog 125 [stV a v,stV b u,rpV r q] L h K:=by
 obtain⟨k1,k2,k3,k4,k5,k6,k7,k8⟩:=H.hk.nums;obtain⟨a1,a2,a3,a4,a5,_⟩:=H.ha.ok.all;obtain⟨c1,c2,c3,c4,c5,_⟩:=H.hb.ok.all;have hv:=H.ha;have hu:=H.hb;have hr:=H.hr;obtain⟨pa,pc,ma,mc,ea,ec,xa,xc,oa,oc,da,dc,ta,tc,ka,kc,ra,rc,rfl⟩:=hv.slices;obtain⟨pa2,pc2,ma2,mc2,ea2,ec2,xa2,xc2,oa2,oc2,da2,dc2,ta2,tc2,ka2,kc2,ra2,rc2,rfl⟩:=hu.slices;obtain⟨qoa,qoc,qla,qlc,qsa,qsc,qda,qdc,rfl⟩:=hr.sl;clear hv hu hr;unfold Ud at hk;refine ZS func125 rfl (rs:=[_]) rfl rfl ZY (by kernel_rfl) rfl rfl ?_;refine xx ?_;refine Z0 fun b3 nb3 zb3=>?_;(try simp only[ZT]at nb3);refine xx ?_;refine Z0 fun b4 nb4 zb4=>?_;(try simp only[ZT]at nb4);have n43:=nb4.1;refine xx ?_;refine Z0 fun b5 nb5 zb5=>?_;(try simp only[ZT]at nb5);have n54:=nb5.1;have n53:=nb5.2.1;refine xx ?_;refine Zb.ap (GO _ _ _ c3 a3 k3 fun h1 le1 ap=>?_);have p5:h1 b5=noC:=ap.1;have p4:h1 b4=noC:=ap.2.1;have p3:h1 b3=noC:=ap.2.2.1;clear ap
 cases e:Zah b.mint a.mint r.mint with
 | false =>
  rw[e,Bool.false_and]at hk;refine xx ?_;exact ZO (ZO (ZO (ZP (hk h1 le1))))
 | true =>
  rw[e,Bool.true_and]at hk;refine xx ?_;refine GO _ _ _ c4 a4 k6 fun h2 le2=>?_;refine xx ?_;exact ZO (ZO (ZO (ZP (hk h2 (le1.trans le2)))))
theorem Zrh {a b:Ze}{v u:SV}{r:Zf}{q:RV}(H:ZL h a b v u r q)(hk:∀h',PH.le h h'→K (.bool (WZ a r)) L h'):Zb prog 126 [stV a v,rpV r q] L h K:=by
 obtain⟨k1,k2,k3,k4,k5,k6,k7,k8⟩:=H.hk.nums;obtain⟨_,_,_,hr1⟩:=YS H.fa;have hp:=H.ha.ok.p;have hv:=H.ha;have hr:=H.hr;obtain⟨pa,pc,ma,mc,ea,ec,xa,xc,oa,oc,da,dc,ta,tc,ka,kc,ra,rc,rfl⟩:=hv.slices;obtain⟨qoa,qoc,qla,qlc,qsa,qsc,qda,qdc,rfl⟩:=hr.sl;clear hv hr;unfold WZ at hk;refine ZS func126 rfl (rs:=[_]) rfl rfl ZY (by kernel_rfl) rfl rfl ?_;refine xx ?_;refine Z0 fun b2 nb2 zb2=>?_;(try simp only[ZT]at nb2);refine xx ?_;refine Z0 fun b3 nb3 zb3=>?_;(try simp only[ZT]at nb3);have n32:=nb3.1;refine xx ?_;refine Zb.ap (GO _ _ _ k3 k4 k5 fun h1 le1 ap=>?_);have p3:h1 b3=noC:=ap.1;have p2:h1 b2=noC:=ap.2.1;clear ap
 cases e:Zah r.mint r.paid r.kept with
 | false =>
  rw[e,Bool.false_and]at hk;refine xx ?_;exact ZO (ZO (ZP (hk h1 le1)))
 | true =>
  rw[e,Bool.true_and]at hk;refine xx ?_;refine Yi (.tk 0 (.tkl 1 (.tk 2 (.tk 3 (.tk 4 (.tkl 5 (.o1 6 (.tk 7 (.tk 8 (.tk 9 (.tk 11 (.tk 13 (.tkl 10 (.tkl 12 (.tkl 14 (.o1 15 (.tk 16 (.tk 17 (.tk 18 (.tk 19 (.fin))))) (.nil)))))))))) (.nil)))))))) (by kernel_rfl) (by kernel_rfl) _ (Za.refl _ _) ?_;by_cases c1:r.mint=0
  ·rw[decide_eq_true c1,Bool.true_or]at hk;refine xx ?_;exact ZO (ZO (ZP (hk h1 le1)))
  rw[decide_eq_false c1,Bool.false_or]at hk;refine xx ?_;refine Zni _ ?_;by_cases c2:r.mode=3∨r.mode=4
  ·rw[decide_eq_true c2,Bool.not_true,Bool.false_and]at hk;rw[decide_eq_true c2];refine xx ?_;exact ZO (ZO (ZP (hk h1 le1)))
  rw[decide_eq_false c2,Bool.not_false,Bool.true_and]at hk;rw[decide_eq_false c2];refine xx ?_;refine Zko a.par hp _ k2 fun h2 le2=>?_
  first
  | refine xkp (Za.forget le2) ?_
  | skip
  refine xx ?_;exact ZO (ZO (ZP (hk h2 (le1.trans le2))))
theorem Ybc {a b:Ze}{v u:SV}{r:Zf}{q:RV}(H:ZL h a b v u r q)(hk:∀h',PH.le h h'→K (.bool (UW a b r)) L h'):Zb prog 127 [stV a v,stV b u,rpV r q] L h K:=by
 obtain⟨k1,k2,k3,k4,k5,k6,k7,k8⟩:=H.hk.nums;obtain⟨ea,ca,la,hr1⟩:=YS H.fa;have hA:=Yfy H.ha H.fa;have hP:=Vg (ks:=a.marks) H.ha.mo;have hv:=H.ha;have hv0:=H.ha;have hu:=H.hb;have hr:=H.hr;obtain⟨pa,pc,ma,mc,ea,ec,xa,xc,oa,oc,da,dc,ta,tc,ka,kc,ra,rc,rfl⟩:=hv.slices;obtain⟨pa2,pc2,ma2,mc2,ea2,ec2,xa2,xc2,oa2,oc2,da2,dc2,ta2,tc2,ka2,kc2,ra2,rc2,rfl⟩:=hu.slices;obtain⟨qoa,qoc,qla,qlc,qsa,qsc,qda,qdc,rfl⟩:=hr.sl;clear hv hu hr;have bP:0≤VD a.members a.marks∧VD a.members a.marks≤18446744073709551615:=by omega
 have bA:0≤WS a.members∧WS a.members≤18446744073709551615:=by omega
 refine ZS func127 rfl (rs:=[_]) rfl rfl ZY (by kernel_rfl) rfl rfl ?_;refine xx ?_;refine Z0 fun b3 nb3 zb3=>?_;(try simp only[ZT]at nb3);refine xx ?_;refine Z0 fun b4 nb4 zb4=>?_;(try simp only[ZT]at nb4);have n43:=nb4.1;refine xx ?_;refine Z0 fun b5 nb5 zb5=>?_;(try simp only[ZT]at nb5);have n54:=nb5.1;have n53:=nb5.2.1;refine xx ?_;refine Zb.ap (Zka (l:=a.members) (ks:=a.marks) _ _ hv0.m hv0.mo hv0.k (by omega) bA.2 fun h1 le1 ap=>?_);have p5:h1 b5=noC:=ap.1;have p4:h1 b4=noC:=ap.2.1;have p3:h1 b3=noC:=ap.2.2.1;clear ap;have eP:Jw a=VD a.members a.marks:=rfl;have eA:WX a=WS a.members:=rfl;unfold UW at hk;rw[eP,eA]at hk;refine xx ?_;refine Yi (.tk 0 (.tk 1 (.tk 2 (.tk 3 (.tk 4 (.tkl 5 (.tk 6 (.tk 7 (.tk 8 (.tk 9 (.tk 10 (.tkl 11 (.tk 12 (.tk 13 (.tk 14 (.tk 15 (.tk 17 (.tk 18 (.tkl 16 (.o1 19 (.tk 20 (.tk 21 (.fin))) (.nil))))))))))))))))))))) (by kernel_rfl) (by kernel_rfl) _ (Za.refl _ _) ?_;by_cases c1:VD a.members a.marks=r.pres
 rotate_left
 ·rw[decide_eq_false c1,Bool.false_and]at hk;refine xx ?_;exact ZO (ZO (ZO (ZP (hk h1 le1))))
 rw[decide_eq_true c1,Bool.true_and]at hk;by_cases c2:WS a.members=r.act
 rotate_left
 ·rw[decide_eq_false c2,Bool.false_and]at hk;refine xx ?_;exact ZO (ZO (ZO (ZP (hk h1 le1))))
 rw[decide_eq_true c2,Bool.true_and]at hk;refine xx ?_;refine Zb.ap (Yll _ _ bP bA fun h2 le2 ap=>?_);have p25:h2 b5=noC:=ap.1;have p24:h2 b4=noC:=ap.2.1;have p23:h2 b3=noC:=ap.2.2.1;clear ap;rw[show (decide (0<WS a.members)&&decide (2*WS a.members<3*VD a.members a.marks))=Zyl (VD a.members a.marks) (WS a.members) from rfl];have hk2:=hk h2 (le1.trans le2)
 first
 | refine xkp (Za.forget le2) ?_
 | skip
 generalize Zyl (VD a.members a.marks) (WS a.members)=tw at hk2 ⊢
 cases hq:r.quo with
 | true =>
  cases tw with
  | false =>
   rw[hq,show decide (true=false)=false from rfl,Bool.false_and]at hk2;simp -dsimp -implicitDefEqProofs (disch:=first|with_reducible assumption|omega) [go_sem,hq];exact ZO (ZO (ZO (ZP hk2)))
  | true =>
   rw[hq,decide_eq_true rfl,Bool.true_and,Zlb,if_pos rfl]at hk2;simp -dsimp -implicitDefEqProofs (disch:=first|with_reducible assumption|omega) [go_sem,hq];exact ZO (ZO (ZO (ZP hk2)))
 | false =>
  cases tw with
  | true =>
   rw[hq,show decide (false=true)=false from rfl,Bool.false_and]at hk2;simp -dsimp -implicitDefEqProofs (disch:=first|with_reducible assumption|omega) [go_sem,hq];exact ZO (ZO (ZO (ZP hk2)))
  | false =>
   rw[hq,decide_eq_true rfl,Bool.true_and,Zlb,if_neg (by decide)]at hk2;by_cases c3:1073741824≤a.calm
   ·rw[show min a.calm 1073741823+1=1073741824 by omega]at hk2;simp -dsimp -implicitDefEqProofs (disch:=first|with_reducible assumption|omega) [go_sem,hq];exact ZO (ZO (ZO (ZP hk2)))
   ·rw[show min a.calm 1073741823+1=a.calm+1 by omega]at hk2;simp -dsimp -implicitDefEqProofs (disch:=first|with_reducible assumption|omega) [go_sem,hq];exact ZO (ZO (ZO (ZP hk2)))
end Go.X
