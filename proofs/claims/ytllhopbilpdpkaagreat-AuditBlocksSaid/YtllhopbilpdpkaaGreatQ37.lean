/- Lemmas and contracts. Conditions: as each says. -/
import Derived.Test.YtllhopbilpdpkaaGreatQ36
set_option linter.unusedVariables false
set_option linter.unusedSimpArgs false
set_option maxHeartbeats 12800000
set_option maxRecDepth 20000
namespace Go.X
open Go.RowKit Go.Bl
section
variable {P:Program}
def Zul (P:Program):Nat→TypeId→Value→Value→Option Bool
 | 0,_,_,_=>none
 | d+1,t,v,u=>match P.underlying t,v,u with
  | some .bool,.bool a,.bool b=>some (a == b)
  | some (.int _),.int k1 a,.int k2 b=>if k1 == k2 then some (a == b) else none
  | some (.struct fs),.agg xs,.agg ys=>if P.stoodInHeld t then none else
   fs.toList.foldr (fun f acc => if f.name == "_" then acc else match Zre P f.type xs f.offset, Zre P f.type ys f.offset with
    | some x,some y=>(match Zul P d f.type x y,acc with
     | some b,some r=>some (b&&r)
     | _,_=>none)
    | _,_=>none) (some true)
  | _,_,_=>none
theorem Zhy:∀ (d:Nat)(t:TypeId)(v u:Value)(b:Bool),Zul P d t v u=some b→∀(D:Nat)(W:World),(Op.equalIn (D+d) t v u).run P W = .ok b W
 | 0,_,_,_,_,h,_,_=>by cases h
 | d+1,t,v,u,b,h,D,W=>by
  unfold Zul at h;split at h
  ·rename_i a c hu;injection h with h
   rw[← Nat.add_assoc,run_equalIn_bool W (D+d) t a c hu,h]
  ·rename_i k k1 a k2 c hu;split at h
   ·rename_i hk;have:k1=k2:=by simpa using hk
    subst this;injection h with h
    rw[← Nat.add_assoc,run_equalIn_int W (D+d) t k1 k a c hu,h]
   ·cases h
  ·rename_i fs xs ys hu;split at h
   ·cases h
   ·rename_i hs;have hf:P.fieldsOf t=fs:=by simp [Program.fieldsOf,hu]
    rw[← Nat.add_assoc,run_equalIn_struct W (D+d) t xs ys (by rw[hf];exact hu) (by simpa using hs),hf]
    have key : ∀ (l : List Field) (b : Bool), (l.foldr (fun f acc => if f.name == "_" then acc else match Zre P f.type xs f.offset, Zre P f.type ys f.offset with
      | some x,some y=>(match Zul P d f.type x y,acc with
       | some b,some r=>some (b&&r)
       | _,_=>none)
      | _,_=>none) (some true))=some b→(Op.eqFields (D+d) xs ys l).run P W = .ok b W:=by
     intro l
     induction l with
     | nil =>
      intro b hb;injection hb with hb
      subst hb;simp [Op.eqFields]
     | cons f l ih =>
      intro b hb;rw[List.foldr_cons]at hb;by_cases hn : f.name = "_"
      ·rw[if_pos (by simpa using hn)]at hb;rw[Op.eqFields,if_neg (by simpa using hn)];exact ih b hb
      ·rw[if_neg (by simpa using hn)]at hb;split at hb
       ·rename_i x y hx hy;split at hb
        ·rename_i e r he hr;injection hb with hb
         subst hb;have h1:=Zkm hx W;have h2:=Zkm hy W;have h3:=Zhy d f.type x y e he D W;have h4:=ih r hr;rw[Op.eqFields,if_pos hn]
         cases e<;>simp [h1,h2,h3,h4]
        ·cases hb
       ·cases hb
    exact key _ b h
  ·cases h
theorem Zfn {T:TypeId}{xs ys:Array Value}{b:Bool}(hf:Zul P 8 T (.agg xs) (.agg ys)=some b)(hg:P.eqGuardType P.depth T=false)(x y:Operand)(K:Value→Prop)(t:Zm K):VN P .neq T x y (.agg xs) (.agg ys) K t=K (.bool (!b)) :=
 Yt (fun W=>by
  simp only[Sem.run_bind,run_eqGuard_agg W .neq T x y _ _ hg,Result.andThen_ok,run_neq_struct,Zhy 8 T (.agg xs) (.agg ys) b hf 9992 W]) K
end
open Go.RowKit Go.Proofs Go.Bl Go.Proofs.Tryz
variable {L:Own} {h:PH} {K:PK}
theorem Zst {bl:List Bool}(v:Value)(hb:Bools h v bl)(hl:bl.length≤100)(hk:∀i:Int,-1≤i→i≤100→(0≤i↔bl.all id=false)→K (.int .i64 i) L h):Zb prog 275 [v,.bool false] L h K:=by
 have ob:=hb.open;obtain⟨a,c,rfl,_,_,hcs⟩:=ob;refine ZS func275 rfl (rs:=[_]) rfl rfl ZX (by kernel_rfl) rfl rfl ?_;refine xx ?_;refine Wd (0:Nat) (fun k=>k≤bl.length∧∀j,j<k→bol bl j=true) (fun k=>[(8,.int .i64 k),(7,.int .i64 bl.length),(0,.slice a bl.length c),(1,.bool false)]) (fun k=>bl.length-k) ?_ ?_ ?_
 ·exact⟨Nat.zero_le _,fun j hj=>by omega⟩
 ·simp [Ent,List.lookup,Y3]
 rintro k ⟨k1,k2⟩;by_cases d:k<bl.length
 ·cases hg:bol bl k with
  | true =>
   simp -dsimp -implicitDefEqProofs (disch:=first|with_reducible assumption|omega) [go_sem,idx (idxB hcs),hg];refine⟨k+1,⟨by omega,fun j hj=>?_⟩,by omega,by simp [Ent,List.lookup],Za.refl _ _⟩;by_cases e:j=k
   ·subst e;exact hg
   ·exact k2 j (by omega)
  | false =>
   have:bl.all id=false:=by
    rw[List.all_eq_false];refine⟨bl[k],List.getElem_mem d,?_⟩;simp [bol,d]at hg;simp [hg]
   simp -dsimp -implicitDefEqProofs (disch:=first|with_reducible assumption|omega) [go_sem,idx (idxB hcs),hg];exact ZP (hk k (by omega) (by omega) ⟨fun _=>this,fun _=>by omega⟩)
 ·have:bl.all id=true:=by
   rw[List.all_eq_true];intro x hx;obtain⟨j,hj,rfl⟩:=List.mem_iff_getElem.1 hx;have:=k2 j (by omega);simp [bol,hj]at this
   simpa using this
  refine xx ?_;exact ZP (hk (-1) (by omega) (by omega) ⟨fun x=>by omega,fun x=>by rw[this]at x;cases x⟩)
theorem Zhd {bl:List Bool}(v:Value)(hb:Bools h v bl)(hl:bl.length≤100)(hk:K (.bool (!bl.all id)) L h):Zb prog 163 [v,.bool false] L h K:=by
 have ob:=hb.open;obtain⟨a,c,rfl,_⟩:=ob;refine ZS func163 rfl (rs:=[_]) rfl rfl ZX (by kernel_rfl) rfl rfl ?_;refine xx ?_;refine Zst _ hb hl fun i i1 i2 i3=>?_;have e:decide (0≤i) = !bl.all id:=by
  cases hc:bl.all id with
  | true=>exact decide_eq_false fun x=>by rw[i3.1 x]at hc;cases hc
  | false=>exact decide_eq_true (i3.2 hc)
 refine xx ?_;refine ZP ?_;rw[e];exact hk
theorem WU {bl:List Bool}(v:Value)(hb:Bools h v bl)(hl:bl.length≤100)(hk:K (.bool (bl.all id)) L h):Zb prog 53 [v] L h K:=by
 have ob:=hb.open;obtain⟨a,c,rfl,_⟩:=ob;refine ZS func53 rfl (rs:=[_]) rfl rfl ZX (by kernel_rfl) rfl rfl ?_;refine xx ?_;refine Zhd _ hb hl ?_;refine xx ?_;exact ZP hk
theorem Zam (n a b:Int)(ha:0≤a∧a≤18446744073709551615)(hb:0≤b∧b≤18446744073709551615)(hn:n≤18446744073709551615)(hk:K (.bool (Zhm n a b)) L h):Zb prog 270 [.int .u64 n,.int .u64 a,.int .u64 b] L h K:=by
 refine ZS func270 rfl (rs:=[_]) rfl rfl ZX (by kernel_rfl) rfl rfl ?_;refine xx ?_;refine WA _ _ ha hb ?_;by_cases c:a+b≤18446744073709551615
 ·rw[YF c];refine xx ?_;exact ZP hk
 ·rw[Wh c];have e:Zhm n a b=false:=decide_eq_false (by omega);rw[e]at hk;refine xx ?_;exact ZP hk
theorem Yhp (d e:Zk)(x y:Operand)(K:Value→Prop)(t:Zm K):VN prog .neq 164 x y (.agg #[.int .i64 d.acct,.int .i64 d.mem,.int .u64 d.amt,.bool d.new]) (.agg #[.int .i64 e.acct,.int .i64 e.mem,.int .u64 e.amt,.bool e.new]) K t=K (.bool (!JR d e)):=Zfn (b:=JR d e) (by kernel_rfl) (by kernel_rfl) x y K t
theorem Yix {l m:List Zk}{k:Nat}(hk:k<l.length)(c:JR (gr Z4 l k) (gr Z4 m k)=false):V8 l m=false:=by
 rw[V8,decide_eq_false (fun x:∀j,j<l.length→JR (gr Z4 l j) (gr Z4 m j)=true=>by rw[x k hk]at c;cases c),Bool.and_false]
theorem Zsl {l m:List Zk}(v u:Value)(hx:Zh Ua 4 h v l)(hy:Zh Ua 4 h u m)(hk:K (.bool (V8 l m)) L h):Zb prog 274 [v,u] L h K:=by
 obtain⟨a,ca,rfl,hna,hca,_,hd⟩:=hx.open;obtain⟨b,cb,rfl,hnb,hcb,_,hd'⟩:=hy.open;refine ZS func274 rfl (rs:=[_]) rfl rfl ZX (by kernel_rfl) rfl rfl ?_;by_cases c0:l.length=m.length
 rotate_left
 ·have e:V8 l m=false:=by rw[V8,decide_eq_false c0];rfl
  rw[e]at hk;refine xx ?_;exact ZP hk
 refine xx ?_;refine Wd (0:Nat) (fun k=>k≤l.length∧∀j,j<k→JR (gr Z4 l j) (gr Z4 m j)=true) (fun k=>[(13,.int .i64 k),(12,.int .i64 l.length),(0,.slice a l.length ca),(1,.slice b m.length cb)]) (fun k=>l.length-k) ?_ ?_ ?_
 ·exact⟨Nat.zero_le _,fun j hj=>by omega⟩
 ·simp [Ent,List.lookup,Y3]
 rintro k ⟨k1,k2⟩;by_cases c1:k<l.length
 ·refine xx ?_;refine Uh (by kernel_rfl) rfl ?_
  cases c2:JR (gr Z4 l k) (gr Z4 m k) with
  | true =>
   simp -dsimp -implicitDefEqProofs (disch:=first|with_reducible assumption|omega) [go_sem,↓WQ Z4 (by decide) hd,↓WQ Z4 (by decide) hd',Ua,Yhp,c2];refine⟨k+1,⟨by omega,fun j hj=>?_⟩,by omega,by simp [Ent,List.lookup],Za.refl _ _⟩;by_cases e:j=k
   ·subst e;exact c2
   ·exact k2 j (by omega)
  | false =>
   rw[Yix c1 c2]at hk;simp -dsimp -implicitDefEqProofs (disch:=first|with_reducible assumption|omega) [go_sem,↓WQ Z4 (by decide) hd,↓WQ Z4 (by decide) hd',Ua,Yhp,c2];exact ZP hk
 ·have e:V8 l m=true:=by rw[V8,decide_eq_true c0,decide_eq_true fun j hj=>k2 j (by omega)];rfl
  rw[e]at hk;refine xx ?_;exact ZP hk
theorem JO {s:Ze}{v:SV}(hs:Zo h v s)(hn1:s.members.length≤100000)(hn2:s.pool.length≤100000)(hn3:s.dues.length≤100000)(hn4:s.motions.length≤100000)(hk:∀h' u,PH.le h h'→Zo h' u s→K (stV s u) L h'):Zb prog 13 [stV s v] L h K:=by
 obtain⟨vp,vm,ve,vx,vo,vd,vt,vk,vr⟩:=v;obtain⟨ok1,p1,m1,mo1,e1,x1,o1,oo1,d1,dd1,⟨q1,t1,t1e,t1m⟩,k1,⟨r1,r1s,r1e⟩⟩:=hs;simp only at p1 m1 e1 x1 o1 d1 t1 k1 r1s;have cp1:=p1.open;obtain⟨ap1,zp1,rfl,_⟩:=cp1;have cm1:=m1.open;obtain⟨am1,zm1,rfl,_⟩:=cm1;have ce1:=e1.open;obtain⟨ae1,ze1,rfl,_⟩:=ce1;have cx1:=x1.open;obtain⟨ax1,zx1,rfl,_⟩:=cx1;have co1:=o1.open;obtain⟨ao1,zo1,rfl,_⟩:=co1;have cd1:=d1.open;obtain⟨ad1,zd1,rfl,_⟩:=cd1;have ct1:=t1.open;obtain⟨at1,zt1,rfl,_⟩:=ct1;have ck1:=k1.open;obtain⟨ak1,zk1,rfl,_⟩:=ck1;obtain⟨ar1,zr1,rfl,_,_,_,_,r1t⟩:=r1s.open;have hql:q1.length≤100000:=by have:=congrArg List.length t1e;simp at this;omega
 refine ZS func13 rfl (rs:=[_]) rfl rfl ZX (by kernel_rfl) rfl rfl ?_;refine xx ?_;refine Z0 fun b1 nb1 zb1=>?_;(try simp only[ZT]at nb1);refine xx ?_;refine Z0 fun b2 nb2 zb2=>?_;(try simp only[ZT]at nb2);refine xx ?_;refine Yj (.tk 0 (.tk 2 (.tk 4 (.tk 6 (.tk 8 (.tk 10 (.tk 12 (.tk 14 (.tk 16 (.tk 18 (.tk 20 (.tk 23 (.tk 25 (.tk 27 (.tk 30 (.tk 33 (.tk 36 (.tk 38 (.tkl 1 (.tkl 3 (.tkl 5 (.tkl 7 (.tkl 9 (.tkl 11 (.tkl 13 (.tkl 15 (.tkl 17 (.tkl 19 (.tkl 21 (.tkl 24 (.tkl 26 (.tkl 28 (.tkl 31 (.tkl 34 (.tkl 37 (.tkl 39 (.o1 22 (.o1 29 (.o1 32 (.o1 35 (.tk 40 (.o2 41 (.fin) (.nil))) (.nil)) (.nil)) (.nil)) (.nil)))))))))))))))))))))))))))))))))))))) (by kernel_rfl) (by kernel_rfl) _ (Za.refl _ _) ?_;refine xx ?_;refine Zb.apn (Ztl _ m1 hn1 fun h2 r2 le2 hr2 ap nd=>?_);simp only[Ap]at ap;obtain⟨u1,u2,_⟩:=ap;have hr2':=hr2;obtain⟨am2,zm2,rfl,_⟩:=hr2'.open;refine xx ?_;refine xkp (Za.forget le2) ?_;refine xx ?_;refine Zb.apn (Ziy _ (o1.up le2) hn2 fun h5 r5 le5 hr5 ap nd=>?_);simp only[Ap]at ap;obtain⟨v5,w5,_⟩:=ap;have hr5':=hr5;obtain⟨as5,zs5,rfl,_⟩:=hr5'.open;refine xx ?_;refine xkp (Za.forget (le2.trans le5)) ?_;refine xx ?_;refine Zb.apn (Zjr _ (d1.up (le2.trans le5)) hn3 fun h6 r6 le6 hr6 ap nd=>?_);simp only[Ap]at ap;obtain⟨v6,w6,_⟩:=ap;have hr6':=hr6;obtain⟨as6,zs6,rfl,_⟩:=hr6'.open;refine xx ?_;refine xkp (Za.forget ((le2.trans le5).trans le6)) ?_;refine xx ?_;refine Zb.apn (Zkk _ (t1.up (le2.trans (le5.trans le6))) (fun x hx=>(t1m x hx).up (le2.trans (le5.trans le6))) hql fun h7 r7 le7 hr7 ap nd=>?_);simp only[Ap]at ap;obtain⟨v7,w7,_⟩:=ap;have hr7':=hr7;obtain⟨as7,zs7,rfl,_⟩:=hr7'.open;refine xx ?_;refine xkp (Za.forget ((le2.trans (le5.trans le6)).trans le7)) ?_;refine xx ?_;have LE:=le2.trans (le5.trans (le6.trans le7))
 have hu:Zo h7 ⟨.slice ap1 s.purses.length zp1,.slice am2 s.members.length zm2,.slice ae1 s.entry.length ze1,.slice ax1 s.exit.length zx1,.slice as5 s.pool.length zs5,.slice as6 s.dues.length zs6,.slice as7 q1.length zs7,.slice ak1 s.marks.length zk1,.slice ar1 r1.length zr1⟩ s :=
  ⟨ok1,p1.up LE,hr2.up (le5.trans (le6.trans le7)),mo1,e1.up LE,x1.up LE,hr5.up (le6.trans le7),oo1,hr6.up le7,dd1,⟨q1,hr7,t1e,fun x hx=>(t1m x hx).up LE⟩,k1.up LE,⟨r1,r1t.up LE,r1e⟩⟩
 exact ZO (ZO (ZP (hk h7 _ LE hu)))
theorem Zw.sl {q:RV}{r:Zf}(hq:Zw h q r):∃oa oc la lc sa sc da dc,q=⟨.slice oa r.out.length oc,.slice la r.left.length lc,.slice sa r.started.length sc,.slice da r.done.length dc⟩:=by
 obtain⟨qo,ql,qs,qd⟩:=q;obtain⟨h1,h2,h3,h4⟩:=hq;simp only at h1 h2 h3 h4;obtain⟨oa,oc,rfl,_⟩:=h1.open;obtain⟨la,lc,rfl,_⟩:=h2.open;obtain⟨sa,sc,rfl,_⟩:=h3.open;obtain⟨da,dc,rfl,_⟩:=h4.open;exact⟨oa,oc,la,lc,sa,sc,da,dc,rfl⟩
abbrev Zid (a b:Ze)(v u:SV)(r:Zf)(q:RV):Value := .agg #[.int .u64 a.par.inc,.int .u64 a.par.maxEff,.int .u64 a.par.floor,.int .u64 a.par.cap,.int .u64 a.par.up,.int .u64 a.par.down,.int .u64 a.par.bias,.int .u64 a.par.quot,.int .u64 a.par.biasEm,.int .u64 a.par.quotEm,.int .u64 a.par.recover,.int .u64 a.par.scoreCap,.int .u64 a.par.rate,.int .u64 a.par.bond,.int .i64 a.par.delay,.int .i64 a.par.streak,.int .i64 a.par.boost,.int .i64 a.par.absent,.int .i64 a.par.burn,.int .i64 a.par.churn,.int .i64 a.par.wait,.int .i64 a.par.poll,.int .i64 a.par.enact,.int .i64 a.par.quorum,.int .u64 a.most,.int .u64 a.gen,.int .u64 a.mint,.int .u64 a.burn,.int .u64 a.treas,.int .i64 a.ep,.int .i64 a.calm,.bool a.emer,v.p,v.m,v.e,v.x,v.o,v.d,v.t,v.k,v.r,.int .u64 b.par.inc,.int .u64 b.par.maxEff,.int .u64 b.par.floor,.int .u64 b.par.cap,.int .u64 b.par.up,.int .u64 b.par.down,.int .u64 b.par.bias,.int .u64 b.par.quot,.int .u64 b.par.biasEm,.int .u64 b.par.quotEm,.int .u64 b.par.recover,.int .u64 b.par.scoreCap,.int .u64 b.par.rate,.int .u64 b.par.bond,.int .i64 b.par.delay,.int .i64 b.par.streak,.int .i64 b.par.boost,.int .i64 b.par.absent,.int .i64 b.par.burn,.int .i64 b.par.churn,.int .i64 b.par.wait,.int .i64 b.par.poll,.int .i64 b.par.enact,.int .i64 b.par.quorum,.int .u64 b.most,.int .u64 b.gen,.int .u64 b.mint,.int .u64 b.burn,.int .u64 b.treas,.int .i64 b.ep,.int .i64 b.calm,.bool b.emer,u.p,u.m,u.e,u.x,u.o,u.d,u.t,u.k,u.r,.int .i64 r.ep,.int .i64 r.mode,.bool r.quo,.int .u64 r.pres,.int .u64 r.act,.int .u64 r.mint,.int .u64 r.paid,.int .u64 r.kept,.int .u64 r.burned,.int .u64 r.fees,q.o,q.l,q.s,q.d]
structure AuH (h:PH)(a b:Ze)(v u:SV)(r:Zf)(q:RV):Prop where
 ha:Zo h v a
 hb:Zo h u b
 hr:Zw h q r
 hk:ZM r
 fa:Yb a=true
 fb:Yb b=true
theorem AuH.up {h h':PH}(le:PH.le h h'){a b:Ze}{v u:SV}{r:Zf}{q:RV}(H:AuH h a b v u r q):AuH h' a b v u r q :=
 ⟨H.ha.up le,H.hb.up le,⟨H.hr.o.up le,H.hr.l.up le,H.hr.s.up le,H.hr.d.up le⟩,H.hk,H.fa,H.fb⟩
theorem Y6 {s:Ze}(hf:Yb s=true):(0≤s.ep∧s.ep≤1073741824)∧(0≤s.calm∧s.calm≤1073741824)∧s.members.length≤128∧Yd s.par=true:=by
 obtain⟨f1,f2,f3,f4,f5,_⟩:=fitsT_iff.1 hf;rw[wi_iff]at f2 f3;simp only[We,Bool.and_eq_true,decide_eq_true_eq]at f5;exact⟨f2,f3,f5.1.1.1,f1⟩
theorem ZM.nums {r:Zf}(h:ZM r):(0≤r.pres∧r.pres≤18446744073709551615)∧(0≤r.act∧r.act≤18446744073709551615)∧(0≤r.mint∧r.mint≤18446744073709551615)∧(0≤r.paid∧r.paid≤18446744073709551615)∧(0≤r.kept∧r.kept≤18446744073709551615)∧(0≤r.burned∧r.burned≤18446744073709551615)∧(0≤r.fees∧r.fees≤18446744073709551615)∧(-9223372036854775808≤r.ep∧r.ep≤9223372036854775807):=by
 have hu:=h.u;have hn:=h.n;simp only[List.forall_mem_cons]at hu hn;exact⟨hu.1,hu.2.1,hu.2.2.1,hu.2.2.2.1,hu.2.2.2.2.1,hu.2.2.2.2.2.1,hu.2.2.2.2.2.2.1,hn.1⟩
theorem Zun {a b:Ze}{v u:SV}{r:Zf}{q:RV}(H:AuH h a b v u r q)(hk:∀h',PH.le h h'→K (.bool (U0 a b r)) L h'):Zb prog 157 [Zid a b v u r q] L h K:=by
 obtain⟨ea,_,_,_⟩:=Y6 H.fa;obtain⟨eb,_,_,_⟩:=Y6 H.fb;have hv:=H.ha;have hu:=H.hb;have hr:=H.hr;obtain⟨pa,pc,ma,mc,ea,ec,xa,xc,oa,oc,da,dc,ta,tc,ka,kc,ra,rc,rfl⟩:=hv.slices;obtain⟨pa2,pc2,ma2,mc2,ea2,ec2,xa2,xc2,oa2,oc2,da2,dc2,ta2,tc2,ka2,kc2,ra2,rc2,rfl⟩:=hu.slices;obtain⟨qoa,qoc,qla,qlc,qsa,qsc,qda,qdc,rfl⟩:=hr.sl;clear hv hu hr;refine ZS func157 rfl (rs:=[_]) rfl rfl ZX (by kernel_rfl) rfl rfl ?_;refine xx ?_;refine Z0 fun b1 nb1 zb1=>?_;(try simp only[ZT]at nb1);refine xx ?_;refine Z0 fun b2 nb2 zb2=>?_;(try simp only[ZT]at nb2);refine xx ?_;refine Yc (sz:=1) (n:=4) (cap:=4) [] ⟨Nat.le_refl _,by decide⟩ rfl (by decide) zb2 fun h2 le2 s2 f2=>?_;refine WU (bl:=[decide (b.ep-1=a.ep),decide (r.ep=a.ep),decide (a.most=b.most),decide (a.gen=b.gen)]) _ s2 (by simp) ?_;have e:U0 a b r=([decide (b.ep-1=a.ep),decide (r.ep=a.ep),decide (a.most=b.most),decide (a.gen=b.gen)]).all id:=by
  have e1:decide (b.ep-1=a.ep)=decide (b.ep=a.ep+1):=decide_eq_decide.2 (by omega);simp only[U0,List.all_cons,List.all_nil,id,Bool.and_true,e1]
 rw[← e];simp only[List.nil_append];refine xx ?_;exact ZO (ZP (hk h2 le2))
theorem Ycg {a b:Ze}{v u:SV}{r:Zf}{q:RV}(H:AuH h a b v u r q)(hk:∀h',PH.le h h'→K (.bool (Zgo a b r)) L h'):Zb prog 158 [Zid a b v u r q] L h K:=by
 obtain⟨k1,k2,k3,k4,k5,k6,k7,k8⟩:=H.hk.nums;obtain⟨a1,a2,a3,a4,a5,_⟩:=H.ha.ok.all;obtain⟨b1,b2,b3,b4,b5,_⟩:=H.hb.ok.all;have hv:=H.ha;have hu:=H.hb;have hr:=H.hr;obtain⟨pa,pc,ma,mc,ea,ec,xa,xc,oa,oc,da,dc,ta,tc,ka,kc,ra,rc,rfl⟩:=hv.slices;obtain⟨pa2,pc2,ma2,mc2,ea2,ec2,xa2,xc2,oa2,oc2,da2,dc2,ta2,tc2,ka2,kc2,ra2,rc2,rfl⟩:=hu.slices;obtain⟨qoa,qoc,qla,qlc,qsa,qsc,qda,qdc,rfl⟩:=hr.sl;clear hv hu hr;refine ZS func158 rfl (rs:=[_]) rfl rfl ZX (by kernel_rfl) rfl rfl ?_;refine xx ?_;refine Z0 fun b1 nb1 zb1=>?_;(try simp only[ZT]at nb1);refine xx ?_;refine Yj (.tk 0 (.tk 1 (.tk 3 (.tk 4 (.tk 6 (.tk 7 (.tk 10 (.tk 11 (.tk 13 (.tk 14 (.tk 16 (.tk 17 (.tkl 2 (.tkl 5 (.tkl 8 (.tkl 12 (.tkl 15 (.tkl 18 (.o1 9 (.o1 19 (.o1 20 (.o1 21 (.tk 22 (.fin)) (.nil)) (.nil)) (.nil)) (.nil)))))))))))))))))))) (by kernel_rfl) (by kernel_rfl) _ (Za.refl _ _) ?_;refine xx ?_;refine Zam _ _ _ a3 k3 b3.2 ?_;refine xx ?_;refine Zam _ _ _ a4 k6 b4.2 ?_;refine xx ?_;refine Z0 fun b2 nb2 zb2=>?_;(try simp only[ZT]at nb2);refine xkp (Za.tail _ _ _) ?_;refine xx ?_;refine Yc (sz:=1) (n:=2) (cap:=2) [] ⟨Nat.le_refl _,by decide⟩ rfl (by decide) zb2 fun h2 le2 s2 f2=>?_;refine WU (bl:=[Zhm b.mint a.mint r.mint,Zhm b.burn a.burn r.burned]) _ s2 (by simp) ?_;have e:Zgo a b r=([Zhm b.mint a.mint r.mint,Zhm b.burn a.burn r.burned]).all id:=by
  simp only[Zgo,List.all_cons,List.all_nil,id,Bool.and_true]
 rw[← e];refine xkp (Za.forget le2) ?_;simp only[List.nil_append];refine xx ?_;exact ZO (ZP (hk h2 le2))
theorem Zvl {a b:Ze}{v u:SV}{r:Zf}{q:RV}(H:AuH h a b v u r q)(hk:∀h',PH.le h h'→K (.bool (Jd a r)) L h'):Zb prog 159 [Zid a b v u r q] L h K:=by
 obtain⟨k1,k2,k3,k4,k5,k6,k7,k8⟩:=H.hk.nums;obtain⟨_,_,_,hr1⟩:=Y6 H.fa;have hp:=H.ha.ok.p;have hv:=H.ha;have hu:=H.hb;have hr:=H.hr;obtain⟨pa,pc,ma,mc,ea,ec,xa,xc,oa,oc,da,dc,ta,tc,ka,kc,ra,rc,rfl⟩:=hv.slices;obtain⟨pa2,pc2,ma2,mc2,ea2,ec2,xa2,xc2,oa2,oc2,da2,dc2,ta2,tc2,ka2,kc2,ra2,rc2,rfl⟩:=hu.slices;obtain⟨qoa,qoc,qla,qlc,qsa,qsc,qda,qdc,rfl⟩:=hr.sl;clear hv hu hr;refine ZS func159 rfl (rs:=[_]) rfl rfl ZX (by kernel_rfl) rfl rfl ?_;refine xx ?_;refine Z0 fun b1 nb1 zb1=>?_;(try simp only[ZT]at nb1);refine xx ?_;refine Yj (.tk 0 (.tk 1 (.tkl 2 (.o1 3 (.tk 4 (.tk 5 (.tk 6 (.tk 7 (.tk 9 (.tk 10 (.tk 12 (.tk 13 (.tkl 8 (.tkl 11 (.tkl 14 (.o1 15 (.tk 16 (.tk 17 (.tk 18 (.fin)))) (.nil))))))))))))) (.nil))))) (by kernel_rfl) (by kernel_rfl) _ (Za.refl _ _) ?_;refine xx ?_;refine Zjs _ ?_;by_cases c:r.mode=3∨r.mode=4
 ·rw[decide_eq_true c];refine xx ?_;refine Yj (.tk 0 (.tk 1 (.tk 3 (.tk 4 (.tk 6 (.tk 7 (.tk 10 (.tk 11 (.tkl 2 (.tkl 5 (.tkl 8 (.tkl 12 (.tk 13 (.o1 9 (.tk 14 (.tk 15 (.tk 16 (.o1 17 (.o1 18 (.tk 19 (.fin)) (.nil)) (.nil))))) (.nil))))))))))))))) (by kernel_rfl) (by kernel_rfl) _ (Za.refl _ _) ?_;refine xx ?_;refine Zam _ _ _ k4 k5 k3.2 ?_;have e:Jd a r=([Zhm r.mint r.paid r.kept,decide (r.mint=0)]).all id:=by
   simp only[Jd,List.all_cons,List.all_nil,id,Bool.and_true,decide_eq_true c,Bool.not_true,Bool.false_and,Bool.or_false]
  by_cases c2:r.mint=0
  ·rw[decide_eq_true c2]at e;refine xx ?_;refine Z0 fun b2 nb2 zb2=>?_;(try simp only[ZT]at nb2);refine xkp (Za.tail _ _ _) ?_;refine xx ?_;refine Yc (sz:=1) (n:=2) (cap:=2) [] ⟨Nat.le_refl _,by decide⟩ rfl (by decide) zb2 fun h2 le2 s2 f2=>?_;refine WU (bl:=[Zhm r.mint r.paid r.kept,true]) _ s2 (by simp) ?_;rw[← e];refine xkp (Za.forget le2) ?_;simp only[List.nil_append];refine xx ?_;exact ZO (ZP (hk h2 le2))
  ·rw[decide_eq_false c2]at e;refine xx ?_;refine Z0 fun b2 nb2 zb2=>?_;(try simp only[ZT]at nb2);refine xkp (Za.tail _ _ _) ?_;refine xx ?_;refine Yc (sz:=1) (n:=2) (cap:=2) [] ⟨Nat.le_refl _,by decide⟩ rfl (by decide) zb2 fun h2 le2 s2 f2=>?_;refine WU (bl:=[Zhm r.mint r.paid r.kept,false]) _ s2 (by simp) ?_;rw[← e];refine xkp (Za.forget le2) ?_;simp only[List.nil_append];refine xx ?_;exact ZO (ZP (hk h2 le2))
 ·rw[decide_eq_false c];refine xx ?_;refine Zhs a.par hp hr1 _ k2 ?_;refine xx ?_;refine Yj (.tk 0 (.tk 1 (.tk 3 (.tk 4 (.tk 6 (.tk 7 (.tk 10 (.tk 11 (.tkl 2 (.tkl 5 (.tkl 8 (.tkl 12 (.tk 13 (.o1 9 (.tk 14 (.tk 15 (.tk 16 (.o1 17 (.o1 18 (.tk 19 (.fin)) (.nil)) (.nil))))) (.nil))))))))))))))) (by kernel_rfl) (by kernel_rfl) _ (Za.refl _ _) ?_;refine xx ?_;refine Zam _ _ _ k4 k5 k3.2 ?_;have e:Jd a r=([Zhm r.mint r.paid r.kept,decide (r.mint=0)||decide (r.mint=Zhk a.par r.act)]).all id:=by
   simp only[Jd,List.all_cons,List.all_nil,id,Bool.and_true,decide_eq_false c,Bool.not_false,Bool.true_and]
  by_cases c2:r.mint=0
  ·rw[decide_eq_true c2,Bool.true_or]at e;refine xx ?_;refine Z0 fun b2 nb2 zb2=>?_;(try simp only[ZT]at nb2);refine xkp (Za.tail _ _ _) ?_;refine xx ?_;refine Yc (sz:=1) (n:=2) (cap:=2) [] ⟨Nat.le_refl _,by decide⟩ rfl (by decide) zb2 fun h2 le2 s2 f2=>?_;refine WU (bl:=[Zhm r.mint r.paid r.kept,true]) _ s2 (by simp) ?_;rw[← e];refine xkp (Za.forget le2) ?_;simp only[List.nil_append];refine xx ?_;exact ZO (ZP (hk h2 le2))
  ·rw[decide_eq_false c2,Bool.false_or]at e;refine xx ?_;refine Z0 fun b2 nb2 zb2=>?_;(try simp only[ZT]at nb2);refine xkp (Za.tail _ _ _) ?_;refine xx ?_;refine Yc (sz:=1) (n:=2) (cap:=2) [] ⟨Nat.le_refl _,by decide⟩ rfl (by decide) zb2 fun h2 le2 s2 f2=>?_;refine WU (bl:=[Zhm r.mint r.paid r.kept,decide (r.mint=Zhk a.par r.act)]) _ s2 (by simp) ?_;rw[← e];refine xkp (Za.forget le2) ?_;simp only[List.nil_append];refine xx ?_;exact ZO (ZP (hk h2 le2))
theorem Ysk {h:PH}{v:SV}{s:Ze}(hs:Zo h v s)(hf:Yb s=true):VA s.members≤140737488355328:=by
 obtain⟨_,_,hl,_⟩:=Y6 hf;exact GM hl fun m hm=>(Ycz hs hf m hm).1
theorem Yfe {a b:Ze}{v u:SV}{r:Zf}{q:RV}(H:AuH h a b v u r q)(hk:∀h',PH.le h h'→K (.bool (Zap a b r)) L h'):Zb prog 160 [Zid a b v u r q] L h K:=by
 obtain⟨k1,k2,k3,k4,k5,k6,k7,k8⟩:=H.hk.nums;obtain⟨ea,ca,la,hr1⟩:=Y6 H.fa;have hA:=Ysk H.ha H.fa;have hP:=VX (ks:=a.marks) H.ha.mo;have hv:=H.ha;have hv0:=H.ha;have hu:=H.hb;have hr:=H.hr;obtain⟨pa,pc,ma,mc,ea,ec,xa,xc,oa,oc,da,dc,ta,tc,ka,kc,ra,rc,rfl⟩:=hv.slices;obtain⟨pa2,pc2,ma2,mc2,ea2,ec2,xa2,xc2,oa2,oc2,da2,dc2,ta2,tc2,ka2,kc2,ra2,rc2,rfl⟩:=hu.slices;obtain⟨qoa,qoc,qla,qlc,qsa,qsc,qda,qdc,rfl⟩:=hr.sl;clear hv hu hr;have bP:0≤UR a.members a.marks∧UR a.members a.marks≤18446744073709551615:=by omega
 have bA:0≤VA a.members∧VA a.members≤18446744073709551615:=by omega
 refine ZS func160 rfl (rs:=[_]) rfl rfl ZX (by kernel_rfl) rfl rfl ?_;refine xx ?_;refine Z0 fun b1 nb1 zb1=>?_;(try simp only[ZT]at nb1);refine xx ?_;refine Zb.ap (Zbc (l:=a.members) (ks:=a.marks) _ _ hv0.m hv0.mo hv0.k (by omega) bA.2 fun h1 le1 ap=>?_);have p1:h1 b1=noC:=ap.1;clear ap
 cases hq:r.quo with
 | true =>
  refine xx ?_;refine Yj (.tk 0 (.tk 1 (.tk 2 (.tk 3 (.tk 4 (.tk 7 (.tk 8 (.tk 9 (.tk 12 (.tk 13 (.tk 15 (.tk 16 (.tk 19 (.tk 20 (.tk 22 (.tkl 5 (.tk 6 (.tkl 10 (.tk 11 (.tkl 14 (.tkl 21 (.tk 23 (.o1 17 (.tk 18 (.o1 24 (.o1 25 (.tk 26 (.fin)) (.nil)) (.nil))) (.nil)))))))))))))))))))))))) (by kernel_rfl) (by kernel_rfl) _ (Za.refl _ _) ?_;refine xx ?_;refine Zfi _ _ bP bA ?_;refine xx ?_;refine Z0 fun b2 nb2 zb2=>?_;(try simp only[ZT]at nb2);refine xkp (Za.tail _ _ _) ?_;refine xx ?_;refine Yc (sz:=1) (n:=5) (cap:=5) [] ⟨Nat.le_refl _,by decide⟩ rfl (by decide) (by first|exact zb2|assumption) fun h2 le2 s2 f2=>?_;have e:Zap a b r=([true,decide (UR a.members a.marks=r.pres),decide (VA a.members=r.act),decide (0<VA a.members)&&decide (2*VA a.members<3*UR a.members a.marks),decide (b.calm=0)]).all id:=by
   have e1:decide (true=Ycu (JB a) (W6 a))=(decide (0<VA a.members)&&decide (2*VA a.members<3*UR a.members a.marks)):=by
    rw[show (decide (0<VA a.members)&&decide (2*VA a.members<3*UR a.members a.marks))=Ycu (JB a) (W6 a) from rfl]
    cases Ycu (JB a) (W6 a)<;>rfl
   rw[Zap,hq,e1];simp only[List.all_cons,List.all_nil,id,Bool.and_true,Bool.true_and,Zxw,if_true]
   rfl
  refine WU (bl:=[true,decide (UR a.members a.marks=r.pres),decide (VA a.members=r.act),decide (0<VA a.members)&&decide (2*VA a.members<3*UR a.members a.marks),decide (b.calm=0)]) _ s2 (by simp) ?_;rw[← e];refine xkp (Za.forget le2) ?_;simp only[List.nil_append];refine xx ?_;exact ZO (ZP (hk h2 (le1.trans le2)))
 | false =>
  refine xx ?_;refine Yj (.tk 0 (.tk 1 (.tk 2 (.tk 3 (.tk 4 (.tk 7 (.tk 8 (.tk 9 (.tk 12 (.tk 13 (.tk 15 (.tk 16 (.tk 19 (.tk 20 (.tk 22 (.tkl 5 (.tk 6 (.tkl 10 (.tk 11 (.tkl 14 (.tkl 21 (.tk 23 (.o1 17 (.tk 18 (.o1 24 (.o1 25 (.tk 26 (.fin)) (.nil)) (.nil))) (.nil)))))))))))))))))))))))) (by kernel_rfl) (by kernel_rfl) _ (Za.refl _ _) ?_;refine xx ?_;refine Zfi _ _ bP bA ?_;refine xx ?_;refine Z0 fun b2 nb2 zb2=>?_;(try simp only[ZT]at nb2);refine xkp (Za.tail _ _ _) ?_;refine xx ?_;refine Yc (sz:=1) (n:=5) (cap:=5) [] ⟨Nat.le_refl _,by decide⟩ rfl (by decide) (by first|exact zb2|assumption) fun h2 le2 s2 f2=>?_;have e:Zap a b r=([true,decide (UR a.members a.marks=r.pres),decide (VA a.members=r.act),!decide (0<VA a.members) || !decide (2*VA a.members<3*UR a.members a.marks),decide (b.calm=min a.calm 1073741823+1)]).all id:=by
   have e1:decide (false=Ycu (JB a) (W6 a))=(!decide (0<VA a.members) || !decide (2*VA a.members<3*UR a.members a.marks)):=by
    rw[← Bool.not_and,show (decide (0<VA a.members)&&decide (2*VA a.members<3*UR a.members a.marks))=Ycu (JB a) (W6 a) from rfl]
    cases Ycu (JB a) (W6 a)<;>rfl
   rw[Zap,hq,e1];simp only[List.all_cons,List.all_nil,id,Bool.and_true,Bool.true_and,Zxw,Bool.false_eq_true,if_false]
   rfl
  refine WU (bl:=[true,decide (UR a.members a.marks=r.pres),decide (VA a.members=r.act),!decide (0<VA a.members) || !decide (2*VA a.members<3*UR a.members a.marks),decide (b.calm=min a.calm 1073741823+1)]) _ s2 (by simp) ?_;rw[← e];refine xkp (Za.forget le2) ?_;simp only[List.nil_append];refine xx ?_;exact ZO (ZP (hk h2 (le1.trans le2)))
theorem Zrr {a b:Ze}{v u:SV}{r:Zf}{q:RV}(H:AuH h a b v u r q)(hk:∀h',PH.le h h'→K (.bool (Vs a b r)) L h'):Zb prog 161 [Zid a b v u r q] L h K:=by
 obtain⟨_,_,la,_⟩:=Y6 H.fa;obtain⟨_,_,lb,_⟩:=Y6 H.fb;have hv:=H.ha;have hv0:=H.ha;have hu:=H.hb;have hu0:=H.hb;have hr:=H.hr;obtain⟨pa,pc,ma,mc,ea,ec,xa,xc,oa,oc,da,dc,ta,tc,ka,kc,ra,rc,rfl⟩:=hv.slices;obtain⟨pa2,pc2,ma2,mc2,ea2,ec2,xa2,xc2,oa2,oc2,da2,dc2,ta2,tc2,ka2,kc2,ra2,rc2,rfl⟩:=hu.slices;obtain⟨qoa,qoc,qla,qlc,qsa,qsc,qda,qdc,rfl⟩:=hr.sl;clear hv hu hr
 cases hq:r.quo with
 | true =>
  have e:Vs a b r=true:=by rw[Vs,hq];rfl
  have hk0:=hk h (PH.le_refl h);rw[e]at hk0;refine ZS func161 rfl (rs:=[_]) rfl rfl ZX (by kernel_rfl) rfl rfl ?_;simp -dsimp -implicitDefEqProofs (disch:=first|with_reducible assumption|omega) [go_sem,hq];refine Z0 fun b1 nb1 zb1=>?_;(try simp only[ZT]at nb1);refine xx ?_;exact ZO (ZP hk0)
 | false =>
 have e0:Vs a b r=([decide (a.par=b.par),decide ((a.members.length:Int)=b.members.length),V8 a.pool b.pool].all id&&Ylm a b):=by
  rw[Vs,hq,show decide ((a.members.length:Int)=b.members.length)=decide (a.members.length=b.members.length) from decide_eq_decide.2 (by omega)];simp only[List.all_cons,List.all_nil,id,Bool.and_true,Bool.false_or,Bool.and_assoc]
 refine ZS func161 rfl (rs:=[_]) rfl rfl ZX (by kernel_rfl) rfl rfl ?_;simp -dsimp -implicitDefEqProofs (disch:=first|with_reducible assumption|omega) [go_sem,hq];refine Z0 fun b1 nb1 zb1=>?_;(try simp only[ZT]at nb1);refine xx ?_;refine Yj (.tk 0 (.tk 1 (.tk 3 (.tk 4 (.tk 7 (.tk 8 (.tk 11 (.tk 12 (.tk 16 (.tk 17 (.tk 19 (.tk 20 (.tkl 2 (.tkl 5 (.tk 6 (.tkl 9 (.tk 10 (.tkl 13 (.tk 14 (.tk 15 (.tkl 18 (.tkl 21 (.o1 22 (.o1 23 (.o1 24 (.tk 25 (.fin)) (.nil)) (.nil)) (.nil)))))))))))))))))))))))) (by kernel_rfl) (by kernel_rfl) _ (Za.refl _ _) ?_;simp -dsimp -implicitDefEqProofs (disch:=first|with_reducible assumption|omega) [go_sem,Zzc];refine Zsl _ _ hv0.o hu0.o ?_;refine xx ?_;refine Z0 fun b2 nb2 zb2=>?_;(try simp only[ZT]at nb2);refine xkp (Za.tail _ _ _) ?_;refine xx ?_;refine Yc (sz:=1) (n:=3) (cap:=3) [] ⟨Nat.le_refl _,by decide⟩ rfl (by decide) (by first|exact zb2|assumption) fun h2 le2 s2 f2=>?_;have p1:h2 b1=noC:=by rw[f2 b1 nb2.1];exact zb1
 refine WU (bl:=[decide (a.par=b.par),decide ((a.members.length:Int)=b.members.length),V8 a.pool b.pool]) _ s2 (by simp) ?_;refine xkp (Za.forget le2) ?_;simp only[List.nil_append];have hk2:=hk h2 le2;rw[e0]at hk2
 cases hB:([decide (a.par=b.par),decide ((a.members.length:Int)=b.members.length),V8 a.pool b.pool]).all id with
 | false =>
  rw[hB]at hk2;refine xx ?_;exact ZO (ZP hk2)
 | true =>
  rw[hB,Bool.true_and]at hk2;simp only[List.all_cons,List.all_nil,id,Bool.and_true,Bool.and_eq_true,decide_eq_true_eq]at hB;have hl:a.members.length=b.members.length:=by have:=hB.2.1;omega
  obtain⟨a1,c1,e1,g1,g2,_,hda⟩:=(hv0.m.up le2).open;obtain⟨a2,c2,e2,g3,g4,_,hdb⟩:=(hu0.m.up le2).open;injection e1 with e11 _ e13
  injection e2 with e21 _ e23
  subst e11 e13 e21 e23;refine xx ?_;refine Wd (0:Nat) (fun k=>k≤b.members.length∧∀j,j<k→(gr ZQ b.members j).status=2→(gr ZQ a.members j).status=2) (fun k=>[(38,.int .i64 k),(37,.int .i64 b.members.length),(36,.slice ma2 b.members.length mc2),(1,.pointer (some ⟨b1,0,none⟩))]) (fun k=>b.members.length-k) ?_ ?_ ?_
  ·exact⟨Nat.zero_le _,fun j hj=>by omega⟩
  ·simp [Ent,List.lookup,Y3]
  rintro k ⟨k1,k2⟩;by_cases d1:k<b.members.length
  ·simp -dsimp -implicitDefEqProofs (disch:=first|with_reducible assumption|omega) [go_sem,↓WQ ZQ (by decide) hdb,Ym];refine Z0 fun b4 nb4 zb4=>?_;(try simp only[ZT]at nb4);have n41:=nb4.1;refine xx ?_;by_cases d2:(gr ZQ b.members k).status=2
   ·have fe:∀(L:Own) (K:Value→Prop) (t:Zm K),W5 L h2 (Un ma (k*6+5)) 0 K t=K (.int .i64 (gr ZQ a.members k).status):=fun L K t=>hda.fld ZQ (by omega) (o:=5) rfl L K t;by_cases d3:(gr ZQ a.members k).status=2
    ·simp -dsimp -implicitDefEqProofs (disch:=first|with_reducible assumption|omega) [go_sem,↓WQ ZQ (by decide) hda,Ym,↓fe];refine⟨k+1,⟨by omega,fun j hj=>?_⟩,by omega,by simp [Ent,List.lookup],Za.tail _ _ _⟩;by_cases e:j=k
     ·subst e;exact fun _=>d3
     ·exact k2 j (by omega)
    ·simp -dsimp -implicitDefEqProofs (disch:=first|with_reducible assumption|omega) [go_sem,↓WQ ZQ (by decide) hda,Ym,↓fe];have e:Ylm a b=false:=by
      rw[Ylm,decide_eq_false_iff_not];exact fun x=>d3 (x k d1 d2)
     rw[e]at hk2;exact ZO (ZO (ZP hk2))
   ·simp -dsimp -implicitDefEqProofs (disch:=first|with_reducible assumption|omega) [go_sem,Ym];refine⟨k+1,⟨by omega,fun j hj=>?_⟩,by omega,by simp [Ent,List.lookup],Za.tail _ _ _⟩;by_cases e:j=k
    ·subst e;exact fun x=>absurd x d2
    ·exact k2 j (by omega)
  ·have e:Ylm a b=true:=by
    rw[Ylm,decide_eq_true_eq];exact fun j hj=>k2 j (by omega)
   rw[e]at hk2;refine xx ?_;exact ZO (ZP hk2)
theorem Zsh {a b:Ze}{v u:SV}{r:Zf}{q:RV}(H:AuH h a b v u r q)(hk:∀h',PH.le h h'→K (.bool (Vt a b)) L h'):Zb prog 162 [Zid a b v u r q] L h K:=by
 obtain⟨_,_,la,_⟩:=Y6 H.fa;obtain⟨_,_,lb,_⟩:=Y6 H.fb;have hv:=H.ha;have hv0:=H.ha;have hu:=H.hb;have hu0:=H.hb;have hr:=H.hr;obtain⟨pa,pc,ma,mc,ea,ec,xa,xc,oa,oc,da,dc,ta,tc,ka,kc,ra,rc,rfl⟩:=hv.slices;obtain⟨pa2,pc2,ma2,mc2,ea2,ec2,xa2,xc2,oa2,oc2,da2,dc2,ta2,tc2,ka2,kc2,ra2,rc2,rfl⟩:=hu.slices;obtain⟨qoa,qoc,qla,qlc,qsa,qsc,qda,qdc,rfl⟩:=hr.sl;clear hv hu hr;have hk0:=hk h (PH.le_refl h);refine ZS func162 rfl (rs:=[_]) rfl rfl ZX (by kernel_rfl) rfl rfl ?_;refine xx ?_;refine Z0 fun b1 nb1 zb1=>?_;(try simp only[ZT]at nb1);simp -dsimp -implicitDefEqProofs (disch:=first|with_reducible assumption|omega) [go_sem,Yhu];by_cases hp:a.par=b.par
 rotate_left
 ·rw[Vt,decide_eq_false hp]at hk0;refine xx ?_;exact ZO (ZP hk0)
 by_cases hl:b.members.length<a.members.length
 ·rw[Vt,decide_eq_true hp,decide_eq_false (show ¬a.members.length≤b.members.length by omega)]at hk0;refine xx ?_;exact ZO (ZP hk0)
 have e0:Vt a b=Yge a b:=by rw[Vt,decide_eq_true hp,decide_eq_true (show a.members.length≤b.members.length by omega)];rfl
 rw[e0]at hk;clear e0 hk0;refine xx ?_;refine Yu (γ:=Nat×PH) (0,h) (fun y=>y.1≤a.members.length∧PH.le h y.2∧y.2 b1=noC∧∀j,j<y.1→AuM a b j) (fun y=>[(26,.int .i64 y.1),(25,.int .i64 a.members.length),(24,.slice ma a.members.length mc),(1,.pointer (some ⟨b1,0,none⟩))])
  (fun _=>⟨b1,228,[.int .u64 a.par.inc,.int .u64 a.par.maxEff,.int .u64 a.par.floor,.int .u64 a.par.cap,.int .u64 a.par.up,.int .u64 a.par.down,.int .u64 a.par.bias,.int .u64 a.par.quot,.int .u64 a.par.biasEm,.int .u64 a.par.quotEm,.int .u64 a.par.recover,.int .u64 a.par.scoreCap,.int .u64 a.par.rate,.int .u64 a.par.bond,.int .i64 a.par.delay,.int .i64 a.par.streak,.int .i64 a.par.boost,.int .i64 a.par.absent,.int .i64 a.par.burn,.int .i64 a.par.churn,.int .i64 a.par.wait,.int .i64 a.par.poll,.int .i64 a.par.enact,.int .i64 a.par.quorum,.int .u64 a.most,.int .u64 a.gen,.int .u64 a.mint,.int .u64 a.burn,.int .u64 a.treas,.int .i64 a.ep,.int .i64 a.calm,.bool a.emer,.slice pa a.purses.length pc,.slice ma a.members.length mc,.slice ea a.entry.length ec,.slice xa a.exit.length xc,.slice oa a.pool.length oc,.slice da a.dues.length dc,.slice ta a.motions.length tc,.slice ka a.marks.length kc,.slice ra a.ring.length rc,.int .u64 b.par.inc,.int .u64 b.par.maxEff,.int .u64 b.par.floor,.int .u64 b.par.cap,.int .u64 b.par.up,.int .u64 b.par.down,.int .u64 b.par.bias,.int .u64 b.par.quot,.int .u64 b.par.biasEm,.int .u64 b.par.quotEm,.int .u64 b.par.recover,.int .u64 b.par.scoreCap,.int .u64 b.par.rate,.int .u64 b.par.bond,.int .i64 b.par.delay,.int .i64 b.par.streak,.int .i64 b.par.boost,.int .i64 b.par.absent,.int .i64 b.par.burn,.int .i64 b.par.churn,.int .i64 b.par.wait,.int .i64 b.par.poll,.int .i64 b.par.enact,.int .i64 b.par.quorum,.int .u64 b.most,.int .u64 b.gen,.int .u64 b.mint,.int .u64 b.burn,.int .u64 b.treas,.int .i64 b.ep,.int .i64 b.calm,.bool b.emer,.slice pa2 b.purses.length pc2,.slice ma2 b.members.length mc2,.slice ea2 b.entry.length ec2,.slice xa2 b.exit.length xc2,.slice oa2 b.pool.length oc2,.slice da2 b.dues.length dc2,.slice ta2 b.motions.length tc2,.slice ka2 b.marks.length kc2,.slice ra2 b.ring.length rc2,.int .i64 r.ep,.int .i64 r.mode,.bool r.quo,.int .u64 r.pres,.int .u64 r.act,.int .u64 r.mint,.int .u64 r.paid,.int .u64 r.kept,.int .u64 r.burned,.int .u64 r.fees,.slice qoa r.out.length qoc,.slice qla r.left.length qlc,.slice qsa r.started.length qsc,.slice qda r.done.length qdc],96⟩::L) (fun y=>y.2) (fun y=>a.members.length-y.1) ?_ ?_ ?_ ?_
 ·exact⟨Nat.zero_le _,PH.le_refl _,zb1,fun j hj=>by omega⟩
 ·simp [Ent,List.lookup,Y3]
 ·exact Za.refl _ _
 rintro⟨k,h1⟩ ⟨k1,le1,p1,k2⟩;simp only at k1 le1 p1 k2 ⊢;obtain⟨a1,c1,e1,g1,g2,_,hda⟩:=(hv0.m.up le1).open;obtain⟨a2,c2,e2,g3,g4,_,hdb⟩:=(hu0.m.up le1).open;injection e1 with e11 _ e13
 injection e2 with e21 _ e23
 subst e11 e13 e21 e23;by_cases d1:k<a.members.length
 ·simp -dsimp -implicitDefEqProofs (disch:=first|with_reducible assumption|omega) [go_sem,↓WQ ZQ (by decide) hda,Ym];refine Z0 fun b4 nb4 zb4=>?_;(try simp only[ZT]at nb4);have n41:=nb4.1;simp -dsimp -implicitDefEqProofs (disch:=first|with_reducible assumption|omega) [go_sem,Ym];by_cases d2:(gr ZQ a.members k).status=2
  rotate_left
  ·simp -dsimp -implicitDefEqProofs (disch:=first|with_reducible assumption|omega) [go_sem,Ym];refine⟨k+1,h1,⟨by omega,le1,p1,fun j hj=>?_⟩,by omega,by simp [Ent,List.lookup],Za.tail _ _ _⟩;by_cases e:j=k
   ·subst e;exact fun x=>absurd x d2
   ·exact k2 j (by omega)
  simp -dsimp -implicitDefEqProofs (disch:=first|with_reducible assumption|omega) [go_sem,Ym];refine Gv (bs:=a.marks) _ k (hv0.k.up le1) (by omega) ?_
  cases d3:WH a.marks (k:Int) with
  | false =>
   simp -dsimp -implicitDefEqProofs (disch:=first|with_reducible assumption|omega) [go_sem,Ym];refine⟨k+1,h1,⟨by omega,le1,p1,fun j hj=>?_⟩,by omega,by simp [Ent,List.lookup],Za.tail _ _ _⟩;by_cases e:j=k
   ·subst e;exact fun _ x=>by rw[d3]at x;cases x
   ·exact k2 j (by omega)
  | true =>
  simp -dsimp -implicitDefEqProofs (disch:=first|with_reducible assumption|omega) [go_sem,↓WQ ZQ (by decide) hdb,Ym];refine Z0 fun b5 nb5 zb5=>?_;(try simp only[ZT]at nb5);have n54:=nb5.1;have n51:=nb5.2.1;simp -dsimp -implicitDefEqProofs (disch:=first|with_reducible assumption|omega) [go_sem,Ym];refine Yj (.tk 2 (.tk 3 (.tk 5 (.tk 6 (.tk 9 (.tk 10 (.tk 12 (.tk 13 (.tkl 0 (.tkl 4 (.tkl 7 (.tk 8 (.tkl 11 (.tkl 14 (.tk 15 (.o1 1 (.o1 16 (.o1 17 (.tk 18 (.fin)) (.nil)) (.nil)) (.nil))))))))))))))))) (by kernel_rfl) (by kernel_rfl) _ (Za.refl _ _) ?_;simp -dsimp -implicitDefEqProofs (disch:=first|with_reducible assumption|omega) [go_sem,Ym];refine VD (gr ZQ b.members k) ?_;simp -dsimp -implicitDefEqProofs (disch:=first|with_reducible assumption|omega) [go_sem,Ym];refine Z0 fun b6 nb6 zb6=>?_;(try simp only[ZT]at nb6);refine xkp (Za.tail _ _ _) ?_;simp -dsimp -implicitDefEqProofs (disch:=first|with_reducible assumption|omega) [go_sem,Ym];refine Yc (sz:=1) (n:=3) (cap:=3) [] ⟨Nat.le_refl _,by decide⟩ rfl (by decide) (by first|exact zb6|assumption) fun h2 le2 s2 f2=>?_;have p21:h2 b1=noC:=by rw[f2 b1 (by have:=nb6;simp only[ne_eq]at this;exact this.2.2.1)];exact p1
  refine WU (bl:=[decide ((gr ZQ b.members k).status=2)||decide ((gr ZQ b.members k).status=3),decide ((gr ZQ a.members k).bal≤(gr ZQ b.members k).bal),decide ((gr ZQ a.members k).streak≤(gr ZQ b.members k).streak)]) _ s2 (by simp) ?_;refine xkp (Za.forget le2) ?_;simp only[List.nil_append]
  cases hB:([decide ((gr ZQ b.members k).status=2)||decide ((gr ZQ b.members k).status=3),decide ((gr ZQ a.members k).bal≤(gr ZQ b.members k).bal),decide ((gr ZQ a.members k).streak≤(gr ZQ b.members k).streak)]).all id with
  | true =>
   simp only[List.all_cons,List.all_nil,id,Bool.and_true,Bool.and_eq_true,Bool.or_eq_true,decide_eq_true_eq]at hB;simp -dsimp -implicitDefEqProofs (disch:=first|with_reducible assumption|omega) [go_sem,Ym];refine⟨k+1,h2,⟨by omega,le1.trans le2,p21,fun j hj=>?_⟩,by omega,by simp [Ent,List.lookup],(Za.tail _ _ _).trans (Za.tail _ _ _)⟩;by_cases e:j=k
   ·subst e;exact fun _ _=>hB
   ·exact k2 j (by omega)
  | false =>
   have hn:¬AuM a b k:=fun x=>by
    obtain⟨x1,x2,x3⟩:=x d2 d3;have:([decide ((gr ZQ b.members k).status=2)||decide ((gr ZQ b.members k).status=3),decide ((gr ZQ a.members k).bal≤(gr ZQ b.members k).bal),decide ((gr ZQ a.members k).streak≤(gr ZQ b.members k).streak)]).all id=true:=by
     simp only[List.all_cons,List.all_nil,id,Bool.and_true,Bool.and_eq_true,Bool.or_eq_true,decide_eq_true_eq];exact⟨x1,x2,x3⟩
    rw[this]at hB;cases hB
   have e:Yge a b=false:=by
    rw[Yge,decide_eq_false_iff_not];exact fun x=>hn (x k d1)
   rw[e]at hk;simp -dsimp -implicitDefEqProofs (disch:=first|with_reducible assumption|omega) [go_sem,Ym];exact ZO (ZO (ZO (ZP (hk h2 (le1.trans le2)))))
 ·have e:Yge a b=true:=by
   rw[Yge,decide_eq_true_eq];exact fun j hj=>k2 j (by omega)
  rw[e]at hk;refine xx ?_;exact ZO (ZP (hk h1 le1))
end Go.X
set_option maxRecDepth 400000
namespace Go.X
open Go.RowKit Go.Proofs Go.Bl Go.Proofs.Tryz
variable {L:Own} {h:PH} {K:PK}
def Ybz:List Bool→Int→Int
 | [],_=>0
 | b::l,k=>if b=true then Ybz l (k+1) else k+1
theorem Zzn:∀ (bl:List Bool)(i:Int)(k:Nat),k<bl.length→(∀j,j<k→bol bl j=true)→bol bl k=false→Ybz bl i=i+k+1
 | [],_,_,h,_,_=>by simp at h
 | b::l,i,0,_,_,hn=>by
  have:b=false:=by simpa [bol] using hn
  rw[Ybz,this,if_neg (by decide)];simp
 | b::l,i,k+1,hk,ha,hn=>by
  have h0:b=true:=by simpa [bol] using ha 0 (by omega)
  rw[Ybz,if_pos h0,Zzn l (i+1) k (by simpa using hk) (fun j hj=>by simpa [bol] using ha (j+1) (by omega)) (by simpa [bol] using hn)];omega
theorem Zqc:∀ (bl:List Bool)(i:Int),(∀j,j<bl.length→bol bl j=true)→Ybz bl i=0
 | [],_,_=>rfl
 | b::l,i,ha=>by
  have h0:b=true:=by simpa [bol] using ha 0 (by simp)
  rw[Ybz,if_pos h0,Zqc l (i+1) (fun j hj=>by simpa [bol] using ha (j+1) (by simpa using hj))]
theorem Zhu (a b:Ze)(r:Zf):J4 a b r=Ybz [Yb a&&Yb b,U0 a b r,Zgo a b r,Jd a r,Zap a b r,Vs a b r,Vt a b] 0:=by
 unfold J4;simp only[Ybz]
 cases (Yb a&&Yb b)<;>cases U0 a b r<;>cases Zgo a b r<;>cases Jd a r<;>cases Zap a b r<;>cases Vs a b r<;>cases Vt a b<;>rfl
def funV (cl:Nat)(fi ca:List Value):Value := .func (.func cl) fi.toArray ca.toArray
theorem Ztn {bl:List Bool}(cl:Nat→Nat)(fi ca:Nat→List Value)(v:Value)(sl:Sl h v bl.length 1 ((List.range bl.length).map fun j=>funV (cl j) (fi j) (ca j)))(hl:bl.length≤100)
  (hc:∀k,k<bl.length→(∀j,j<k→bol bl j=true)→∀h1 K1,PH.le h h1→Ap L h1→(∀h2,PH.le h1 h2→K1 (.bool (bol bl k)) L h2)→Zb prog (cl k) (fi k++ca k) L h1 K1)
  (hk:∀h1,PH.le h h1→K (.int .i64 (Ybz bl 0)) L h1):Zb prog 156 [v] L h K:=by
 obtain⟨_,a,c,rfl,hcap,hln,hna,_,hcs⟩:=sl;have hcs2:∀j,j<bl.length→Z8 h a j=some (.func (.func (cl j)) (fi j).toArray (ca j).toArray):=fun j hj=>by
  have:=hcs j (funV (cl j) (fi j) (ca j)) (by rw[List.getElem?_map,List.getElem?_range hj];rfl);exact this
 refine Ya func156 rfl (rs:=[_]) rfl rfl ZX (by kernel_rfl) rfl rfl fun ap nd=>?_;clear nd;refine xx ?_;refine Yu (γ:=Nat×PH) (0,h) (fun y=>y.1≤bl.length∧PH.le h y.2∧Ap L y.2∧∀j,j<y.1→bol bl j=true) (fun y=>[(7,.int .i64 y.1),(6,.int .i64 bl.length),(5,.slice a bl.length c)]) (fun _=>L) (fun y=>y.2) (fun y=>bl.length-y.1) ?_ ?_ ?_ ?_
 ·exact⟨Nat.zero_le _,PH.le_refl _,ap,fun j hj=>by omega⟩
 ·simp [Ent,List.lookup,Y3]
 ·exact Za.refl _ _
 clear ap;rintro⟨k,h1⟩ ⟨k1,le1,ap1,k2⟩;simp only at k1 le1 ap1 k2 ⊢;by_cases d:k<bl.length
 ·have hcs3:∀j,j<bl.length→Z8 h1 a j=some ((fun j=>Value.func (.func (cl j)) (fi j).toArray (ca j).toArray) j):=fun j hj=>YZ le1 (hcs2 j hj);simp -dsimp -implicitDefEqProofs (disch:=first|with_reducible assumption|omega) [go_sem,idx hcs3];refine Zb.ap (hc k d k2 h1 _ le1 ap1 fun h2 le2 ap2=>?_)
  cases hb:bol bl k with
  | true =>
   refine xx ?_;refine⟨k+1,h2,⟨by omega,le1.trans le2,ap2,fun j hj=>?_⟩,by omega,by simp [Ent,List.lookup],Za.refl _ _⟩;by_cases e:j=k
   ·subst e;exact hb
   ·exact k2 j (by omega)
  | false =>
   have hk2:=hk h2 (le1.trans le2);rw[Zzn bl 0 k d k2 hb,Int.zero_add]at hk2;refine xx ?_;exact ZP hk2
 ·rw[Zqc bl 0 (fun j hj=>k2 j (by omega))]at hk;refine xx ?_;exact ZP (hk h1 le1)
theorem Yen {a b:Ze}{v u:SV}{b3 b4:Nat}(ha:Zo h v a)(hb:Zo h u b)(fa:Zv a)(fb:Zv b)(p3:h b3=noC)(p4:h b4=noC)(n43:b4≠b3)
  (hk:K (.bool (Yb a&&Yb b)) (⟨b4,34,stC b u,41⟩::⟨b3,34,stC a v,41⟩::L) h) :
  Zb prog 155 [.pointer (some ⟨b3,0,none⟩),.pointer (some ⟨b4,0,none⟩)] (⟨b4,34,stC b u,41⟩::⟨b3,34,stC a v,41⟩::L) h K:=by
 have ha0:=ha;have hb0:=hb;obtain⟨pa,pc,ma,mc,ea,ec,xa,xc,oa,oc,da,dc,ta,tc,ka,kc,ra,rc,rfl⟩:=ha.slices;obtain⟨pa2,pc2,ma2,mc2,ea2,ec2,xa2,xc2,oa2,oc2,da2,dc2,ta2,tc2,ka2,kc2,ra2,rc2,rfl⟩:=hb.slices;refine ZS func155 rfl (rs:=[_]) rfl rfl ZX (by kernel_rfl) rfl rfl ?_;refine xx ?_;refine Vz (s:=a) ⟨.slice pa a.purses.length pc,.slice ma a.members.length mc,.slice ea a.entry.length ec,.slice xa a.exit.length xc,.slice oa a.pool.length oc,.slice da a.dues.length dc,.slice ta a.motions.length tc,.slice ka a.marks.length kc,.slice ra a.ring.length rc⟩ ha0 fa ?_
 cases hfa:Yb a with
 | false =>
  rw[hfa,Bool.false_and]at hk;refine xx ?_;exact ZP hk
 | true =>
  rw[hfa,Bool.true_and]at hk;refine xx ?_;refine Vz (s:=b) ⟨.slice pa2 b.purses.length pc2,.slice ma2 b.members.length mc2,.slice ea2 b.entry.length ec2,.slice xa2 b.exit.length xc2,.slice oa2 b.pool.length oc2,.slice da2 b.dues.length dc2,.slice ta2 b.motions.length tc2,.slice ka2 b.marks.length kc2,.slice ra2 b.ring.length rc2⟩ hb0 fb ?_;refine xx ?_;exact ZP hk
theorem Zjv {a b:Ze}{v u:SV}{r:Zf}{q:RV}(ha:Zo h v a)(hb:Zo h u b)(hr:Zw h q r)(ok:ZM r)(fa:Zv a)(fb:Zv b)(hk:∀h',PH.le h h'→K (.int .i64 (J4 a b r)) L h'):Zb prog 52 [stV a v,stV b u,rpV r q] L h K:=by
 have ha0:=ha;have hb0:=hb;have hr0:=hr;rw[Zhu]at hk;obtain⟨pa,pc,ma,mc,ea,ec,xa,xc,oa,oc,da,dc,ta,tc,ka,kc,ra,rc,rfl⟩:=ha.slices;obtain⟨pa2,pc2,ma2,mc2,ea2,ec2,xa2,xc2,oa2,oc2,da2,dc2,ta2,tc2,ka2,kc2,ra2,rc2,rfl⟩:=hb.slices;obtain⟨qoa,qoc,qla,qlc,qsa,qsc,qda,qdc,rfl⟩:=hr.sl;refine ZS func52 rfl (rs:=[_]) rfl rfl ZX (by kernel_rfl) rfl rfl ?_;refine xx ?_;refine Z0 fun b3 nb3 zb3=>?_;(try simp only[ZT]at nb3);refine xx ?_;refine Z0 fun b4 nb4 zb4=>?_;(try simp only[ZT]at nb4);have n43:=nb4.1;refine xx ?_;refine Z0 fun b5 nb5 zb5=>?_;(try simp only[ZT]at nb5);have n54:=nb5.1;have n53:=nb5.2.1;clear nb4 nb5;refine xx ?_;refine Z0 fun b7 nb7 zb7=>?_;(try simp only[ZT]at nb7);have n75:=nb7.1;have n74:=nb7.2.1;have n73:=nb7.2.2.1;clear nb7;refine xx ?_;refine Z0 fun b27 nb27 zb27=>?_;(try simp only[ZT]at nb27);have m7:=nb27.1;have m5:=nb27.2.1;have m4:=nb27.2.2.1;have m3:=nb27.2.2.2.1;clear nb27;refine xx ?_
 have hX:Value.agg #[.int .u64 a.par.inc,.int .u64 a.par.maxEff,.int .u64 a.par.floor,.int .u64 a.par.cap,.int .u64 a.par.up,.int .u64 a.par.down,.int .u64 a.par.bias,.int .u64 a.par.quot,.int .u64 a.par.biasEm,.int .u64 a.par.quotEm,.int .u64 a.par.recover,.int .u64 a.par.scoreCap,.int .u64 a.par.rate,.int .u64 a.par.bond,.int .i64 a.par.delay,.int .i64 a.par.streak,.int .i64 a.par.boost,.int .i64 a.par.absent,.int .i64 a.par.burn,.int .i64 a.par.churn,.int .i64 a.par.wait,.int .i64 a.par.poll,.int .i64 a.par.enact,.int .i64 a.par.quorum,.int .u64 a.most,.int .u64 a.gen,.int .u64 a.mint,.int .u64 a.burn,.int .u64 a.treas,.int .i64 a.ep,.int .i64 a.calm,.bool a.emer,.slice pa a.purses.length pc,.slice ma a.members.length mc,.slice ea a.entry.length ec,.slice xa a.exit.length xc,.slice oa a.pool.length oc,.slice da a.dues.length dc,.slice ta a.motions.length tc,.slice ka a.marks.length kc,.slice ra a.ring.length rc,.int .u64 b.par.inc,.int .u64 b.par.maxEff,.int .u64 b.par.floor,.int .u64 b.par.cap,.int .u64 b.par.up,.int .u64 b.par.down,.int .u64 b.par.bias,.int .u64 b.par.quot,.int .u64 b.par.biasEm,.int .u64 b.par.quotEm,.int .u64 b.par.recover,.int .u64 b.par.scoreCap,.int .u64 b.par.rate,.int .u64 b.par.bond,.int .i64 b.par.delay,.int .i64 b.par.streak,.int .i64 b.par.boost,.int .i64 b.par.absent,.int .i64 b.par.burn,.int .i64 b.par.churn,.int .i64 b.par.wait,.int .i64 b.par.poll,.int .i64 b.par.enact,.int .i64 b.par.quorum,.int .u64 b.most,.int .u64 b.gen,.int .u64 b.mint,.int .u64 b.burn,.int .u64 b.treas,.int .i64 b.ep,.int .i64 b.calm,.bool b.emer,.slice pa2 b.purses.length pc2,.slice ma2 b.members.length mc2,.slice ea2 b.entry.length ec2,.slice xa2 b.exit.length xc2,.slice oa2 b.pool.length oc2,.slice da2 b.dues.length dc2,.slice ta2 b.motions.length tc2,.slice ka2 b.marks.length kc2,.slice ra2 b.ring.length rc2,.int .i64 r.ep,.int .i64 r.mode,.bool r.quo,.int .u64 r.pres,.int .u64 r.act,.int .u64 r.mint,.int .u64 r.paid,.int .u64 r.kept,.int .u64 r.burned,.int .u64 r.fees,.slice qoa r.out.length qoc,.slice qla r.left.length qlc,.slice qsa r.started.length qsc,.slice qda r.done.length qdc]=Zid a b ⟨.slice pa a.purses.length pc,.slice ma a.members.length mc,.slice ea a.entry.length ec,.slice xa a.exit.length xc,.slice oa a.pool.length oc,.slice da a.dues.length dc,.slice ta a.motions.length tc,.slice ka a.marks.length kc,.slice ra a.ring.length rc⟩ ⟨.slice pa2 b.purses.length pc2,.slice ma2 b.members.length mc2,.slice ea2 b.entry.length ec2,.slice xa2 b.exit.length xc2,.slice oa2 b.pool.length oc2,.slice da2 b.dues.length dc2,.slice ta2 b.motions.length tc2,.slice ka2 b.marks.length kc2,.slice ra2 b.ring.length rc2⟩ r ⟨.slice qoa r.out.length qoc,.slice qla r.left.length qlc,.slice qsa r.started.length qsc,.slice qda r.done.length qdc⟩:=rfl
 obtain⟨X,hXX⟩:∃X,X=Zid a b ⟨.slice pa a.purses.length pc,.slice ma a.members.length mc,.slice ea a.entry.length ec,.slice xa a.exit.length xc,.slice oa a.pool.length oc,.slice da a.dues.length dc,.slice ta a.motions.length tc,.slice ka a.marks.length kc,.slice ra a.ring.length rc⟩ ⟨.slice pa2 b.purses.length pc2,.slice ma2 b.members.length mc2,.slice ea2 b.entry.length ec2,.slice xa2 b.exit.length xc2,.slice oa2 b.pool.length oc2,.slice da2 b.dues.length dc2,.slice ta2 b.motions.length tc2,.slice ka2 b.marks.length kc2,.slice ra2 b.ring.length rc2⟩ r ⟨.slice qoa r.out.length qoc,.slice qla r.left.length qlc,.slice qsa r.started.length qsc,.slice qda r.done.length qdc⟩:=⟨_,rfl⟩
 rw[← hXX]at hX;rw[hX];clear hX;refine Yc (sz:=1) (n:=7) (cap:=7) [] ⟨Nat.le_refl _,by decide⟩ rfl (by decide) (by first|exact zb27|assumption) fun h2 le2 s2 f2=>?_;have p3:h2 b3=noC:=by rw[f2 b3 m3];exact zb3
 have p4:h2 b4=noC:=by rw[f2 b4 m4];exact zb4
 simp only[List.nil_append];refine Ge (Ge ?_);refine Ztn (bl:=[Yb a&&Yb b,U0 a b r,Zgo a b r,Jd a r,Zap a b r,Vs a b r,Vt a b]) (fun j=>[155,157,158,159,160,161,162].getD j 0)
  (fun j=>if j=0 then [] else [X]) (fun j=>if j=0 then [.pointer (some ⟨b3,0,none⟩),.pointer (some ⟨b4,0,none⟩)] else []) _ s2 (by simp) ?_ ?_
 ·intro k hk7 hall h3 K1 le3 ap3 hK;have p33:h3 b3=noC:=ap3.2.1;have p34:h3 b4=noC:=ap3.1;have le23:=le2.trans le3;by_cases k0:k=0
  ·subst k0;exact Yen (ha0.up le23) (hb0.up le23) fa fb p33 p34 n43.symm (hK h3 (PH.le_refl _))
  have hf:(Yb a&&Yb b)=true:=by simpa [bol] using hall 0 (by omega)
  rw[Bool.and_eq_true]at hf;have H:AuH h3 a b ⟨.slice pa a.purses.length pc,.slice ma a.members.length mc,.slice ea a.entry.length ec,.slice xa a.exit.length xc,.slice oa a.pool.length oc,.slice da a.dues.length dc,.slice ta a.motions.length tc,.slice ka a.marks.length kc,.slice ra a.ring.length rc⟩ ⟨.slice pa2 b.purses.length pc2,.slice ma2 b.members.length mc2,.slice ea2 b.entry.length ec2,.slice xa2 b.exit.length xc2,.slice oa2 b.pool.length oc2,.slice da2 b.dues.length dc2,.slice ta2 b.motions.length tc2,.slice ka2 b.marks.length kc2,.slice ra2 b.ring.length rc2⟩ r ⟨.slice qoa r.out.length qoc,.slice qla r.left.length qlc,.slice qsa r.started.length qsc,.slice qda r.done.length qdc⟩:=⟨ha0.up le23,hb0.up le23,⟨hr0.o.up le23,hr0.l.up le23,hr0.s.up le23,hr0.d.up le23⟩,ok,hf.1,hf.2⟩
  by_cases k1:k=1
  ·subst k1 hXX;exact Zun H hK
  by_cases k1:k=2
  ·subst k1 hXX;exact Ycg H hK
  by_cases k1:k=3
  ·subst k1 hXX;exact Zvl H hK
  by_cases k1:k=4
  ·subst k1 hXX;exact Yfe H hK
  by_cases k1:k=5
  ·subst k1 hXX;exact Zrr H hK
  by_cases k1:k=6
  ·subst k1 hXX;exact Zsh H hK
  ·exact absurd hk7 (by simp;omega)
 ·intro h3 le3;refine xx ?_;exact ZO (ZO (ZP (hk h3 (le2.trans le3))))
end Go.X
set_option maxRecDepth 100000
namespace Go.X
open Go.RowKit Go.Proofs Go.Bl Go.Proofs.Tryz
variable {L:Own} {h:PH} {K:PK}
def pc8 (n:Nat):Nat:=n%2+n/2%2+n/4%2+n/8%2+n/16%2+n/32%2+n/64%2+n/128%2
theorem Zjg (n:Nat):n%2≤1:=by omega
theorem Znv (n:Nat):pc8 n≤8:=by
 have h0:=Zjg n;have h1:=Zjg (n/2);have h2:=Zjg (n/4);have h3:=Zjg (n/8);have h4:=Zjg (n/16);have h5:=Zjg (n/32);have h6:=Zjg (n/64);have h7:=Zjg (n/128);unfold pc8
 generalize n%2=a0 at *
 generalize n/2%2=a1 at *
 generalize n/4%2=a2 at *
 generalize n/8%2=a3 at *
 generalize n/16%2=a4 at *
 generalize n/32%2=a5 at *
 generalize n/64%2=a6 at *
 generalize n/128%2=a7 at *
 omega
theorem Ydp {n:Nat}(h:n≤255):pc8 n=0↔n=0:=by
 have key:∀n,n<256→(pc8 n=0↔n=0):=by decide +kernel
 exact key n (by omega)
theorem Ylb {P:Program}{t:Nat}(ht:P.underlying t=some .string)(S:ByteArray)(k:IntKind)(i:Int)(hi:0≤i∧i≤255)(hS:((List.range 256).all fun j=>S[j]? == some (UInt8.ofNat (pc8 j)))=true)(K:Value→Prop)(tk:Zm K) :
  xIx P t (.string S) (.int k i) K tk=K (.int .u8 (pc8 i.toNat:Nat)):=by
 have h1:=List.all_eq_true.1 hS i.toNat (List.mem_range.2 (by omega));have h2:S[i.toNat]?=some (UInt8.ofNat (pc8 i.toNat)):=by simpa using h1
 have h3:(UInt8.ofNat (pc8 i.toNat)).toNat=pc8 i.toNat:=by
  have:=Znv i.toNat;rw[UInt8.toNat_ofNat'];omega
 refine Yt (fun W=>?_) K;simp [Instr.index,asIntOf,underlying,ht,hi.1,h2,h3,go_sem]
theorem Yct (x:Int)(hx:0≤x∧x≤255)(hk:K (.int .i64 (pc8 x.toNat:Nat)) L h):Zb prog 181 [.int .u8 x] L h K:=by
 have b8:=Znv x.toNat;refine ZS func181 rfl (rs:=[_]) rfl rfl ZX (by kernel_rfl) rfl rfl ?_;refine xx ?_;rw[Ylb (by kernel_rfl) _ _ _ (by omega) (by decide +kernel)];refine xx ?_;exact ZP hk
def GA (bs:List Int):Nat→Nat
 | 0=>0
 | k+1=>GA bs k+pc8 (at0 bs k).toNat
theorem Zqi (bs:List Int):∀k,GA bs k≤8*k
 | 0=>Nat.le_refl _
 | k+1=>by have:=Zqi bs k;have:=Znv (at0 bs k).toNat;rw[GA];omega
theorem Zej {bs:List Int}(hb:∀i,0≤at0 bs i∧at0 bs i≤255):∀k,GA bs k=0↔∀j,j<k→at0 bs j=0
 | 0=>⟨fun _ j hj=>by omega,fun _=>rfl⟩
 | k+1=>by
  have h1:=hb k;have h2:=Ydp (n:=(at0 bs k).toNat) (by omega);have ih:=Zej hb k;rw[GA]
  constructor
  ·intro h j hj;by_cases e:j=k
   ·subst e;have:=h2.1 (by omega);omega
   ·exact ih.1 (by omega) j (by omega)
  ·intro h;have h3:=ih.2 fun j hj=>h j (by omega);have h4:=h2.2 (by have:=h k (by omega);omega);omega
theorem Yff {bs:List Int}(v:Value)(hb:Ints h .u8 v bs)(hl:bs.length≤1000)(hk:K (.int .i64 (GA bs bs.length:Nat)) L h):Zb prog 67 [v] L h K:=by
 have hbb:=Yjl hb;obtain⟨a,c,rfl,hcap,hln,_,hcs⟩:=hb.open;refine ZS func67 rfl (rs:=[_]) rfl rfl ZX (by kernel_rfl) rfl rfl ?_;refine xx ?_;refine Wd (0:Nat) (fun k=>k≤bs.length) (fun k=>[(8,.int .i64 k),(7,.int .i64 bs.length),(6,.slice a bs.length c),(3,.int .i64 (GA bs k:Nat))]) (fun k=>bs.length-k) ?_ ?_ ?_
 ·exact Nat.zero_le _
 ·simp [Ent,List.lookup,Y3,GA]
 rintro k k1;have hle:=Zqi bs k;by_cases c1:k<bs.length
 ·have h1:=hbb (at0 bs k) (by rw[← Ye c1];exact List.getElem_mem _);have h2:=Znv (at0 bs k).toNat;simp -dsimp -implicitDefEqProofs (disch:=first|with_reducible assumption|omega) [go_sem,idx hcs];refine Yct _ h1 ?_;refine xx ?_;refine⟨k+1,by omega,by omega,by simp [Ent,List.lookup,GA],Za.refl _ _⟩
 ·obtain rfl:k=bs.length:=by omega
  refine xx ?_;exact ZP hk
def GV (s:Ze)(bs:List Int):Nat→Nat
 | 0=>0
 | k+1=>GV s bs k+if WH bs k=false∧Gw (gr ZQ s.members k) then 1 else 0
theorem Zfs (s:Ze)(bs:List Int):∀k,GV s bs k≤k
 | 0=>Nat.le_refl _
 | k+1=>by have:=Zfs s bs k;rw[GV];split<;>omega
def Zns (bs:List Int):Nat→Nat
 | 0=>0
 | k+1=>Zns bs k+if WH bs k=true then 1 else 0
theorem Zzl (bs:List Int):∀k,Zns bs k≤k
 | 0=>Nat.le_refl _
 | k+1=>by have:=Zzl bs k;rw[Zns];split<;>omega
abbrev Yzb (s:Ze)(bs:List Int)(k:Nat):Prop:=∀j,j<k→WH bs (j:Int)=true→(gr ZQ s.members j).status=2
def G2 (s:Ze)(bs:List Int):Int×Int :=
 if Yb s=false then (0,291) else if Jz bs s.members.length=false then (0,60) else if GA bs bs.length=0∨¬Yzb s bs s.members.length then (0,191) else ((GV s bs s.members.length:Int),0)
theorem Zzu {bs:List Int}(hb:∀i,0≤at0 bs i∧at0 bs i≤255){j:Nat}(hj:j<bs.length)(h:at0 bs j≠0):∃i:Nat,i<8*bs.length∧WH bs (i:Int)=true:=by
 have h1:=hb j;obtain⟨n,hn⟩:=Int.eq_ofNat_of_zero_le h1.1;have key:∀n,n<256→n≠0→∃k,k<8∧((n:Nat):Int)/2 ^ k%2=1:=by decide +kernel
 obtain⟨k,k1,k2⟩:=key n (by omega) (by omega);refine⟨8*j+k,by omega,?_⟩;have e1:(((8*j+k:Nat):Int)/8)=(j:Int):=by omega
 have e2:(((8*j+k:Nat):Int)%8)=(k:Int):=by omega
 rw[Gz _ _ (by omega) (by rw[e1];omega),e1,e2,Int.toNat_natCast,Int.toNat_natCast,hn,k2]
 rfl
theorem Zjk {bs:List Int}:∀k,Zns bs k=0↔∀j,j<k→WH bs (j:Int)=false
 | 0=>⟨fun _ j hj=>by omega,fun _=>rfl⟩
 | k+1=>by
  have ih:=Zjk (bs:=bs) k;rw[Zns]
  constructor
  ·intro h j hj;by_cases e:j=k
   ·subst e
    cases hc:WH bs (j:Int) with
    | false=>rfl
    | true=>rw[if_pos hc]at h;omega
   ·exact ih.1 (by omega) j (by omega)
  ·intro h;have h3:=ih.2 fun j hj=>h j (by omega);rw[if_neg (by rw[h k (by omega)];decide)];omega
theorem Zmy {zs:List Int}{n:Int}(hz:∀i,0≤at0 zs i∧at0 zs i≤255)(hc:Jz zs n=true)(j:Nat)(hj:n≤(j:Int)):WH zs j=false:=by
 rw[Zcq _ _ hz]at hc;simp only[VW,Bool.and_eq_true,decide_eq_true_eq,List.all_eq_true,List.mem_range,Bool.or_eq_true,Bool.not_eq_true']at hc;by_cases hl:j<8*zs.length
 ·exact(hc.2 j hl).resolve_left (by omega)
 ·exact Zaa _ _ (by omega)
theorem Yji {bs:List Int}{n:Nat}(hb:∀i,0≤at0 bs i∧at0 bs i≤255)(hc:Jz bs n=true):Zns bs n=0↔GA bs bs.length=0:=by
 rw[Zjk,Zej hb]
 constructor
 ·intro h j hj;by_cases c:at0 bs j=0
  ·exact c
  ·obtain⟨i,i1,i2⟩:=Zzu hb hj c;by_cases hi:i<n
   ·rw[h i hi]at i2;cases i2
   ·rw[Zmy hb hc i (by omega)]at i2;cases i2
 ·intro h j _;by_cases hj:(0:Int)≤j∧(j:Int)/8<bs.length
  ·rw[Gz _ _ hj.1 hj.2,h _ (by omega)];simp
  ·exact Zaa _ _ hj
theorem G9 {s:Ze}{bs:List Int}(v:SV)(bv:Value)(hs:Zo h v s)(few:Zv s)(hbv:Ints h .u8 bv bs)(hl:bs.length≤1000)(hk:K (.tuple #[.int .i64 (G2 s bs).1,.int .i64 (G2 s bs).2]) L h):Zb prog 17 [stV s v,bv] L h K:=by
 have hs0:=hs;have hbv0:=hbv;obtain⟨pa,pc,ma,mc,ea,ec,xa,xc,oa,oc,da,dc,ta,tc,ka,kc,ra,rc,rfl⟩:=hs.slices;obtain⟨ya,yc,rfl,_⟩:=hbv.open;have hm2:=few.m;refine ZS func17 rfl (rs:=[_,_]) rfl rfl ZX (by kernel_rfl) rfl rfl ?_;refine xx ?_;refine Z0 fun b2 nb2 zb2=>?_;(try simp only[ZT]at nb2);refine xx ?_;refine Vz (s:=s) ⟨.slice pa s.purses.length pc,.slice ma s.members.length mc,.slice ea s.entry.length ec,.slice xa s.exit.length xc,.slice oa s.pool.length oc,.slice da s.dues.length dc,.slice ta s.motions.length tc,.slice ka s.marks.length kc,.slice ra s.ring.length rc⟩ hs0 few ?_
 cases hf:Yb s with
 | false =>
  rw[G2,if_pos hf]at hk;refine xx ?_;exact ZO (ZP hk)
 | true =>
 rw[G2,if_neg (by rw[hf];decide)]at hk;refine xx ?_;refine Zhc (bs:=bs) _ _ hbv0 (by omega) (by omega) ?_
 cases hc:Jz bs s.members.length with
 | false =>
  rw[if_pos hc]at hk;refine xx ?_;exact ZO (ZP hk)
 | true =>
 rw[if_neg (by rw[hc];decide)]at hk;refine xx ?_;refine Yff _ hbv0 hl ?_;by_cases c0:GA bs bs.length=0
 ·rw[if_pos (.inl c0)]at hk;refine xx ?_;exact ZO (ZP hk)
 refine xx ?_;obtain⟨a1,c1,e1,g1,g2,_,hda⟩:=hs0.m.open;injection e1 with e11 _ e13
 subst e11 e13;refine Wd (0:Nat) (fun k=>k≤s.members.length∧Yzb s bs k) (fun k=>[(28,.int .i64 k),(27,.int .i64 s.members.length),(26,.slice ma s.members.length mc),(6,.int .i64 (GV s bs k:Nat)),(1,.slice ya bs.length yc)]) (fun k=>s.members.length-k) ?_ ?_ ?_
 ·exact⟨Nat.zero_le _,fun j hj=>by omega⟩
 ·simp [Ent,List.lookup,Y3,GV]
 rintro k ⟨k1,k2⟩;have hle:=Zfs s bs k;by_cases d1:k<s.members.length
 ·simp -dsimp -implicitDefEqProofs (disch:=first|with_reducible assumption|omega) [go_sem,↓WQ ZQ (by decide) hda,Ym];refine Z0 fun b8 nb8 zb8=>?_;(try simp only[ZT]at nb8);simp -dsimp -implicitDefEqProofs (disch:=first|with_reducible assumption|omega) [go_sem,Ym];refine Gv (bs:=bs) _ k hbv0 (by omega) ?_
  cases hg:WH bs (k:Int) with
  | true =>
   have eN:GV s bs (k+1)=GV s bs k:=by rw[GV,if_neg (fun x=>by rw[hg]at x;cases x.1)];rfl
   by_cases d2:(gr ZQ s.members k).status=2
   ·simp -dsimp -implicitDefEqProofs (disch:=first|with_reducible assumption|omega) [go_sem,Ym];refine⟨k+1,⟨by omega,fun j hj hj2=>?_⟩,by omega,by simp [Ent,List.lookup,eN],Za.tail _ _ _⟩;by_cases e:j=k
    ·subst e;exact d2
    ·exact k2 j (by omega) hj2
   ·rw[if_pos (.inr (fun x=>d2 (x k d1 hg)))]at hk;simp -dsimp -implicitDefEqProofs (disch:=first|with_reducible assumption|omega) [go_sem,Ym];exact ZO (ZO (ZP hk))
  | false =>
   have k3:Yzb s bs (k+1):=fun j hj hj2=>by
    by_cases e:j=k
    ·subst e;rw[hg]at hj2;cases hj2
    ·exact k2 j (by omega) hj2
   simp -dsimp -implicitDefEqProofs (disch:=first|with_reducible assumption|omega) [go_sem,Ym];refine VD (gr ZQ s.members k) ?_;by_cases d2:(gr ZQ s.members k).status=2∨(gr ZQ s.members k).status=3
   ·have eN:GV s bs (k+1)=GV s bs k+1:=by rw[GV,if_pos ⟨hg,d2⟩]
    rw[decide_eq_true d2];refine xx ?_;exact⟨k+1,⟨by omega,k3⟩,by omega,by simp [Ent,List.lookup,eN],Za.tail _ _ _⟩
   ·have eN:GV s bs (k+1)=GV s bs k:=by rw[GV,if_neg (fun x=>d2 x.2)];rfl
    rw[decide_eq_false d2];refine xx ?_;exact⟨k+1,⟨by omega,k3⟩,by omega,by simp [Ent,List.lookup,eN],Za.tail _ _ _⟩
 ·obtain rfl:k=s.members.length:=by omega
  rw[if_neg (fun x=>x.elim c0 (fun y=>y k2))]at hk;refine xx ?_;exact ZO (ZP hk)
end Go.X
set_option maxRecDepth 100000
namespace Go.X
open Go.RowKit Go.Proofs Go.Bl Go.Proofs.Tryz
variable {L:Own} {h:PH} {K:PK}
theorem Ydb (n e sz b o:Nat)(k:IntKind)(j:Int)(h0:0≤j)(h1:j<(n:Int))(K:Value→Prop)(t:Zm K) :
  xIA (.ar n e sz) (.pointer (some ⟨b,o,none⟩)) (.int k j) K t=K (.pointer (some ⟨b,o+j.toNat*sz,none⟩)):=by
 apply propext;constructor
 ·rintro⟨q,k',j',e1,e2,_,_,hk⟩
  cases e1;cases e2
  rw[Vj]at hk;exact hk
 ·intro hk;exact⟨_,_,_,rfl,rfl,h0,h1,by rw[Vj];exact hk⟩
theorem V7 (S:ByteArray):(Value.string S).oneCell'=true:=rfl
def Zum (rule:Int):ByteArray:=if rule=1 then ⟨#[102,105,116]⟩ else if rule=2 then ⟨#[116,105,109,101]⟩ else if rule=3 then ⟨#[115,117,112,112,108,121]⟩ else if rule=4 then ⟨#[109,105,110,116]⟩ else if rule=5 then ⟨#[113,117,111,114,117,109]⟩ else if rule=6 then ⟨#[115,116,105,108,108]⟩ else if rule=7 then ⟨#[116,104,101,114,101]⟩ else ⟨#[]⟩
theorem Zag {rule:Int}(h:rule<0∨8≤rule):Zum rule=⟨#[]⟩:=by
 unfold Zum;rw[if_neg (by omega),if_neg (by omega),if_neg (by omega),if_neg (by omega),if_neg (by omega),if_neg (by omega),if_neg (by omega)]
theorem Zpr (rule:Int)(hk:K (.string (Zum rule)) L h):Zb prog 14 [.int .i64 rule] L h K:=by
 refine ZS func14 rfl (rs:=[_]) rfl rfl ZX (by kernel_rfl) rfl rfl ?_;simp -dsimp -implicitDefEqProofs (disch:=first|with_reducible assumption|omega) [go_sem,V7];refine Z0 fun b3 nb3 zb3=>?_;(try simp only[ZT]at nb3);have hc:rule<0∨8≤rule∨rule=0∨rule=1∨rule=2∨rule=3∨rule=4∨rule=5∨rule=6∨rule=7:=by omega
 by_cases c:rule<0
 ·rw[Zag (.inl c)]at hk;simp -dsimp -implicitDefEqProofs (disch:=first|with_reducible assumption|omega) [go_sem,V7];exact ZO (ZP hk)
 by_cases c2:8≤rule
 ·rw[Zag (.inr c2)]at hk;simp -dsimp -implicitDefEqProofs (disch:=first|with_reducible assumption|omega) [go_sem,V7];exact ZO (ZP hk)
 simp -dsimp -implicitDefEqProofs (disch:=first|with_reducible assumption|omega) [go_sem,Ydb,V7];rcases hc with c|c|rfl|rfl|rfl|rfl|rfl|rfl|rfl|rfl
 ·omega
 ·omega
 all_goals
  simp -dsimp -implicitDefEqProofs (disch:=first|with_reducible assumption|omega) [go_sem,V7];exact ZO (ZP hk)
theorem Zrw (rule:Int)(hk:K (.string (Zum rule)) L h):Zb prog 15 [.int .i64 rule] L h K:=by
 refine ZS func15 rfl (rs:=[_]) rfl rfl ZX (by kernel_rfl) rfl rfl ?_;simp -dsimp -implicitDefEqProofs (disch:=first|with_reducible assumption|omega) [go_sem,V7];refine Z0 fun b3 nb3 zb3=>?_;(try simp only[ZT]at nb3);have hc:rule<0∨8≤rule∨rule=0∨rule=1∨rule=2∨rule=3∨rule=4∨rule=5∨rule=6∨rule=7:=by omega
 by_cases c:rule<0
 ·rw[Zag (.inl c)]at hk;simp -dsimp -implicitDefEqProofs (disch:=first|with_reducible assumption|omega) [go_sem,V7];exact ZO (ZP hk)
 by_cases c2:7<rule
 ·rw[Zag (.inr (by omega))]at hk;simp -dsimp -implicitDefEqProofs (disch:=first|with_reducible assumption|omega) [go_sem,V7];exact ZO (ZP hk)
 simp -dsimp -implicitDefEqProofs (disch:=first|with_reducible assumption|omega) [go_sem,V7];rcases hc with c|c|rfl|rfl|rfl|rfl|rfl|rfl|rfl|rfl
 ·omega
 ·omega
 all_goals
  simp -dsimp -implicitDefEqProofs (disch:=first|with_reducible assumption|omega) [go_sem,V7];exact ZO (ZP hk)
theorem Yfz (p q:Zd)(x y:Operand)(K:Value→Prop)(t:Zm K):VN prog .neq 39 x y (WR p) (WR q) K t=K (.bool (!decide (p=q))):=by
 have e:decide (p=q)=decide (Ys p++Yo p=Ys q++Yo q):=by
  rw[decide_eq_decide];exact⟨fun h=>by rw[h],Zlp⟩
 rw[e];exact UT (T:=39) (ks:=Wdn) (by kernel_rfl) (by kernel_rfl) (by kernel_rfl) (by kernel_rfl) (Ys p++Yo p) (Ys q++Yo q) rfl rfl x y K t
theorem auT2 {a b:Ze}{r:Zf}(h0:(Yb a&&Yb b)=true)(h:U0 a b r=false):J4 a b r=2:=by unfold J4;rw[if_neg (by rw[h0];decide),if_pos h]
end Go.X
set_option maxRecDepth 100000
namespace Go.X
open Go.RowKit Go.Proofs Go.Bl Go.Proofs.Tryz
variable {L:Own} {h:PH} {K:PK}
theorem Yli (n:Int)(hn:0≤n∧n≤255):∀z∈[n],IntKind.u8.min≤z∧z≤IntKind.u8.max:=fun z hz=>by
 rw[List.mem_singleton]at hz;rw[hz,show IntKind.u8.min=0 by decide,show IntKind.u8.max=255 by decide];exact hn
theorem Yfg:G2 simpS [1]=(1,0):=by decide +kernel
theorem Yca:ZM (Yz simpS):=⟨by decide +kernel,by decide +kernel⟩
theorem Zuz:Zv (YP simpS):=⟨by decide +kernel,by decide +kernel,by decide +kernel,by decide +kernel,by decide +kernel,by decide +kernel,by decide +kernel,by decide +kernel⟩
theorem Zbp (hk:∀h',PH.le h h'→K (.bool true) L h'):Zb prog 9 [] L h K:=by
 obtain⟨t0,_⟩:=Zrq;refine ZS func9 rfl (rs:=[_]) rfl rfl ZX (by kernel_rfl) rfl rfl ?_;refine xx ?_;refine Zif fun h1 pa0 pc0 fa0 fc0 le1 ig=>?_;refine xx ?_;refine Zmd ig fun h2 u le2 is=>?_;have is0:=is;obtain⟨pa,pc,ma,mc,ea,ec,xa,xc,oa,oc,da,dc,ta,tc,ka,kc,ra,rc,rfl⟩:=is.slices;refine xx ?_;refine Z0 fun b1 nb1 zb1=>?_;(try simp only[ZT]at nb1);refine xx ?_;refine Z0 fun b15 nb15 zb15=>?_;(try simp only[ZT]at nb15);refine xx ?_;refine Yc (e:=5) (b:=b15) (sz:=1) (n:=1) (cap:=1) (xs:=[.int .u8 1]) [] ⟨by decide,by decide⟩ rfl (by decide) zb15 fun h3 le3 sl3 same3=>?_;have p31:h3 b1=noC:=by rw[same3 b1 nb15.1];exact zb1
 refine G9 (s:=simpS) (bs:=[1]) ⟨.slice pa simpS.purses.length pc,.slice ma simpS.members.length mc,.slice ea simpS.entry.length ec,.slice xa simpS.exit.length xc,.slice oa simpS.pool.length oc,.slice da simpS.dues.length dc,.slice ta simpS.motions.length tc,.slice ka simpS.marks.length kc,.slice ra simpS.ring.length rc⟩ _ (is0.up le3) (U4 Vp) ⟨sl3,Yli 1 (by decide)⟩ (by decide) ?_;rw[Yfg];simp only[List.nil_append];refine xx ?_;obtain⟨T1,hT1⟩:∃x,x=YP simpS:=⟨_,rfl⟩
 obtain⟨R1,hR1⟩:∃x,x=Yz simpS:=⟨_,rfl⟩
 have eh:J4 simpS T1 R1=0:=by rw[hT1,hR1];exact Zss is0 Zeo (by decide)
 have e2:J4 simpS simpS R1=2:=auT2 (by rw[Zeo];rfl) (by rw[U0,decide_eq_false (by omega)];rfl);refine Zb.ap (Ycn (s:=simpS) ⟨.slice pa simpS.purses.length pc,.slice ma simpS.members.length mc,.slice ea simpS.entry.length ec,.slice xa simpS.exit.length xc,.slice oa simpS.pool.length oc,.slice da simpS.dues.length dc,.slice ta simpS.motions.length tc,.slice ka simpS.marks.length kc,.slice ra simpS.ring.length rc⟩ (is0.up le3) Vp (by decide) (fun _ _ _ h4 u4 q4 le4 it ir ap=>?_) (fun c=>absurd t0 c));have p41:h4 b1=noC:=ap.1;clear ap;have hok:=Yca;have hfT:=Zuz;rw[← hT1]at it hfT ⊢;rw[← hR1]at ir hok ⊢;have it0:=it;have ir0:=ir;obtain⟨pa3,pc3,ma3,mc3,ea3,ec3,xa3,xc3,oa3,oc3,da3,dc3,ta3,tc3,ka3,kc3,ra3,rc3,rfl⟩:=it.slices;obtain⟨qoa,qoc,qla,qlc,qsa,qsc,qda,qdc,rfl⟩:=ir.slices;refine xx ?_;refine Z0 fun b5 nb5 zb5=>?_;(try simp only[ZT]at nb5);have n51:=nb5.1;refine xx ?_;refine Z0 fun b6 nb6 zb6=>?_;(try simp only[ZT]at nb6);have n65:=nb6.1;have n61:=nb6.2.1;refine xx ?_;refine Zb.ap (Zjv (a:=simpS) (b:=T1) (v:=⟨.slice pa simpS.purses.length pc,.slice ma simpS.members.length mc,.slice ea simpS.entry.length ec,.slice xa simpS.exit.length xc,.slice oa simpS.pool.length oc,.slice da simpS.dues.length dc,.slice ta simpS.motions.length tc,.slice ka simpS.marks.length kc,.slice ra simpS.ring.length rc⟩) (u:=⟨.slice pa3 T1.purses.length pc3,.slice ma3 T1.members.length mc3,.slice ea3 T1.entry.length ec3,.slice xa3 T1.exit.length xc3,.slice oa3 T1.pool.length oc3,.slice da3 T1.dues.length dc3,.slice ta3 T1.motions.length tc3,.slice ka3 T1.marks.length kc3,.slice ra3 T1.ring.length rc3⟩) (r:=R1) (q:=⟨.slice qoa R1.out.length qoc,.slice qla R1.left.length qlc,.slice qsa R1.started.length qsc,.slice qda R1.done.length qdc⟩) (is0.up (le3.trans le4)) it0 ir0 hok (U4 Vp) hfT fun h5 le5 ap=>?_);have p56:h5 b6=noC:=ap.1;have p55:h5 b5=noC:=ap.2.1
 have p51:h5 b1=noC:=ap.2.2.1;clear ap;rw[eh];refine xx ?_;refine Zjv (a:=simpS) (b:=simpS) (v:=⟨.slice pa simpS.purses.length pc,.slice ma simpS.members.length mc,.slice ea simpS.entry.length ec,.slice xa simpS.exit.length xc,.slice oa simpS.pool.length oc,.slice da simpS.dues.length dc,.slice ta simpS.motions.length tc,.slice ka simpS.marks.length kc,.slice ra simpS.ring.length rc⟩) (u:=⟨.slice pa simpS.purses.length pc,.slice ma simpS.members.length mc,.slice ea simpS.entry.length ec,.slice xa simpS.exit.length xc,.slice oa simpS.pool.length oc,.slice da simpS.dues.length dc,.slice ta simpS.motions.length tc,.slice ka simpS.marks.length kc,.slice ra simpS.ring.length rc⟩) (r:=R1) (q:=⟨.slice qoa R1.out.length qoc,.slice qla R1.left.length qlc,.slice qsa R1.started.length qsc,.slice qda R1.done.length qdc⟩) (is0.up (le3.trans (le4.trans le5))) (is0.up (le3.trans (le4.trans le5))) (ir0.up le5) hok (U4 Vp) (U4 Vp) fun h6 le6=>?_;rw[e2];refine xx ?_;refine Zpr 2 ?_;rw[show Zum 2=⟨#[116,105,109,101]⟩ from rfl];simp -dsimp -implicitDefEqProofs (disch:=first|with_reducible assumption|omega) [go_sem,Zen,beq_self_eq_true];exact ZO (ZO (ZO (ZP (hk h6 (le1.trans (le2.trans (le3.trans (le4.trans (le5.trans le6)))))))))
structure Mn (a b:Ze):Prop where
 mint:b.mint=a.mint
 burn:b.burn=a.burn
 gen:b.gen=a.gen
 most:b.most=a.most
theorem Mn.next {a b c:Ze}(h:Mn a b)(h2:Mn b c):Mn a c:=⟨h2.mint.trans h.mint,h2.burn.trans h.burn,h2.gen.trans h.gen,h2.most.trans h.most⟩
def mkF (g m:List Int):Nat→List Int
 | 0=>m
 | k+1=>if WH g k=true then setB (mkF g m k) k else mkF g m k
def mkS (g:List Int)(s:Ze):Ze:={ s with marks:=mkF g s.marks s.members.length }
def Ygf (plan:List (List Int))(i:Nat):List Int:=plan.getD (min i (plan.length-1)) []
def itS (plan:List (List Int))(s:Ze):Nat→Ze
 | 0=>s
 | k+1=>YP (mkS (Ygf plan k) (itS plan s k))
def itR (plan:List (List Int))(s:Ze)(k:Nat):Zf:=Yz (mkS (Ygf plan k) (itS plan s k))
structure ItI (plan:List (List Int))(s:Ze)(h:PH)(u:SV)(k:Nat):Prop where
 i:Zo h u (itS plan s k)
 f:Yb (itS plan s k)=true
 d:(itS plan s k).dues.length≤s.dues.length+384*k
theorem ItI.up {plan:List (List Int)}{s:Ze}{h h':PH}{u:SV}{k:Nat}(le:PH.le h h')(x:ItI plan s h u k):ItI plan s h' u k:=⟨x.i.up le,x.f,x.d⟩
end Go.X
set_option maxRecDepth 100000
namespace Go.X
open Go.RowKit Go.Proofs Go.Bl Go.Proofs.Tryz
variable {L:Own} {h:PH} {K:PK}
theorem Zvz {s:Ze}(f:Zks s=true):ZN s:=by
 have f9:=JY f;exact⟨by omega,by omega,by omega,by omega⟩
end Go.X
