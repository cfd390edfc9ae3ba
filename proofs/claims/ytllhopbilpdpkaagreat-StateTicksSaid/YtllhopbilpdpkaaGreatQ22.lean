/- Lemmas and contracts. Conditions: as each says. -/
import Derived.Test.YtllhopbilpdpkaaGreatQ19
import Derived.Test.YtllhopbilpdpkaaGreatQ21
set_option linter.unusedVariables false
set_option linter.unusedSimpArgs false
set_option maxHeartbeats 12800000
set_option maxRecDepth 20000
namespace Go.X
open Go.RowKit Go.Proofs Go.Bl Go.Proofs.Tryz
variable {L:Own} {h:PH} {K:PK}
theorem Zcd (a b c:Int)(ha:0<=a/\a<=18446744073709551615)(hb:0<=b/\b<=18446744073709551615)(hc:0<=c/\c<=18446744073709551615)(hk:∀h',PH.le h h'->K (.tuple #[.int .u64 (dwN a b c),.int .i64 (dwE a b c)]) L h'):Zb prog 332 [.int .u64 a,.int .u64 b,.int .u64 c] L h K:=by
 by_cases c0:c=0
 ·have e:dwE a b c=20:=by rw[dwE,if_pos c0]
  have hk:=hk h (PH.le_refl h);rw[dwN,e]at hk;refine eF func332 ?_;refine xx ?_;exact ZP hk
 ·refine eF func332 ?_;refine xx ?_;refine Zce a b c ha hb ⟨qf,hc.2⟩ fun h1 q r l1 nq nr=>?_;obtain⟨qa,qk,qc,rfl⟩:=nq.sl;obtain⟨ra,rk,rc,rfl⟩:=nr.sl;refine xx ?_;refine ZY fun b8 nb8 zb8=>?_;(try simp only[ZS]at nb8);refine xx ?_;refine ZY fun b9 nb9 zb9=>?_;(try simp only[ZS]at nb9);refine xx ?_;refine Zgx _ nq fun h2 l2=>?_;have h3:=hk h2 (l1.trans l2);by_cases c1:a*b/c<=18446744073709551615
  ·have e:dwE a b c=0:=by rw[dwE,if_neg c0,if_pos c1]
   have e1:Zik (a*b/c)=true:=decide_eq_true c1;have e2:GZ (a*b/c)=a*b/c:=by rw[GZ,if_pos c1]
   rw[dwN,e,if_pos rfl]at h3;rw[e1,e2];refine xx ?_;exact ZO (ZO (ZP h3))
  ·have e:dwE a b c=10:=by rw[dwE,if_neg c0,if_neg c1]
   have e1:Zik (a*b/c)=false:=decide_eq_false c1;have e2:GZ (a*b/c)=0:=by rw[GZ,if_neg c1]
   rw[dwN,e]at h3;rw[e1,e2];refine xx ?_;exact ZO (ZO (ZP h3))
theorem Yki {v:Value}{n:Int}{k:Nat}{a:Option Addr}{m c:Nat}(hv:Nt h v n (nz n k))(e:v = .agg #[.slice a m c]):(0<m)↔n≠0:=by
 obtain⟨s,ds,rfl,hs,hd,hv,hl⟩:=hv;obtain⟨a',c',rfl,_⟩:=hs.open;have e2:ds.length=m:=by
  simp at e;exact e.2.1
 subst e2
 constructor
 ·intro h0 hn;rw[hn]at hl;simp [nz]at hl;rw[hl]at h0;exact Nat.lt_irrefl _ h0
 ·intro hn;by_cases c0:ds.length=0
  ·rw[List.length_eq_zero_iff]at c0;subst c0;exact absurd (hv.symm.trans rfl) hn
  ·omega
theorem Zyy (a b c:Int)(ha:0<=a/\a<=18446744073709551615)(hb:0<=b/\b<=18446744073709551615)(hc:0<=c/\c<=18446744073709551615)(hk:∀h',PH.le h h'->K (.tuple #[.int .u64 (uqN a b c),.int .i64 (uqE a b c)]) L h'):Zb prog 74 [.int .u64 a,.int .u64 b,.int .u64 c] L h K:=by
 by_cases c0:c=0
 ·have e:uqE a b c=20:=by rw[uqE,if_pos c0]
  have hk:=hk h (PH.le_refl h);rw[uqN,e]at hk;refine eF func74 ?_;refine xx ?_;exact ZP hk
 ·have tail:∀ {h2:PH} {K':PK} {L':Own} (v:Value),PH.le h h2->Nt h2 v (uqQ a b c) 42->(∀h',PH.le h h'->K' (.tuple #[.int .u64 (uqN a b c),.int .i64 (uqE a b c)]) L' h')->Zb prog 190 [v] L' h2 K':=fun {h2 K' L'} v le hv hK=>by
   refine Zgx v hv fun h3 l3=>?_;have h4:=hK h3 (le.trans l3);by_cases c1:uqQ a b c<=18446744073709551615
   ·have e:uqE a b c=0:=by rw[uqE,if_neg c0,if_pos c1]
    rw[uqN,e,if_pos rfl]at h4;rw[show Zik (uqQ a b c)=true from decide_eq_true c1,GZ,if_pos c1];exact h4
   ·have e:uqE a b c=10:=by rw[uqE,if_neg c0,if_neg c1]
    rw[uqN,e]at h4;rw[show Zik (uqQ a b c)=false from decide_eq_false c1,GZ,if_neg c1];exact h4
  refine eF func74 ?_;refine xx ?_;refine Zce a b c ha hb ⟨qf,hc.2⟩ fun h1 q r l1 nq nr=>?_;obtain⟨qa,qk,qc,rfl⟩:=nq.sl;obtain⟨ra,rk,rc,rfl⟩:=nr.sl;have hlen:=Yki nr rfl;refine xx ?_;refine ZY fun b8 nb8 zb8=>?_;(try simp only[ZS]at nb8);refine xx ?_;refine ZY fun b9 nb9 zb9=>?_;(try simp only[ZS]at nb9);refine xx ?_;by_cases c2:a*b%c=0
  ·have hrk:¬ 0<rk:=fun x=>hlen.1 x c2;have q:uqQ a b c=a*b/c:=by rw[uqQ,if_pos c2]
   refine xx ?_;refine tail _ l1 (by rw[q];exact nq.more qh) fun h3 l3=>?_;refine xx ?_;exact ZO (ZO (ZP (hk h3 l3)))
  ·have hrk:0<rk:=hlen.2 c2;have q:uqQ a b c=a*b/c+1:=by rw[uqQ,if_neg c2]
   refine xx ?_;refine Z4 (.tkl 0 (.o1 1 (.o1 2 (.o2 3 (.fin) (.nil)) (.nil)) (.nil))) qg qg _ (Za.refl _ _) ?_;refine xx ?_;refine Zb.ap (YZ 1 qh qh fun h2 r2 l2 n2 ap=>?_);simp only[Ap]at ap;obtain⟨p9,p8,_⟩:=ap
   first
   | refine xkp (Za.forget l2) ?_
   | skip
   refine xx ?_;refine Zb.ap (UZ _ _ (nq.up l2) n2 ⟨qh,qh⟩ fun h3 r3 l3 n3 ap=>?_);simp only[Ap]at ap;obtain⟨p93,p83,_⟩:=ap;obtain⟨sa,sk,sc,rfl⟩:=n3.sl
   first
   | refine xkp (Za.forget (l2.trans l3)) ?_
   | skip
   refine xx ?_;refine tail _ (l1.trans (l2.trans l3)) (by rw[q];exact n3.more qh) fun h4 l4=>?_;refine xx ?_;exact ZO (ZO (ZP (hk h4 l4)))
def Zfk (k:Nat):Int:=if k<32 then 2 ^ (31-k) else 0
theorem Zwo {k:Nat}(hk:k<32):Zfk k/2=Zfk (k+1):=by
 have:∀k,k<32->Zfk k/2=Zfk (k+1):=qE;exact this k hk
theorem Ydl {k:Nat}(hk:k<32):1<=Zfk k/\Zfk k<=2147483648:=by
 have:∀k,k<32->1<=Zfk k/\Zfk k<=2147483648:=qE;exact this k hk
theorem Yfp (n:Int)(hn:0<=n/\n<=18446744073709551615)(hk:K (.int .u64 (JC n)) L h):Zb prog 344 [.int .u64 n] L h K:=by
 refine ed func344 ?_;refine xx ?_;refine Y1 (0:Nat) (fun k=>k<=32) (fun k=>[(4,.int .u64 (Zfk k)),(3,.int .u64 (rtK n k)),(0,.int .u64 n)]) (fun k=>32-k) ?_ ?_ ?_
 ·exact Nat.zero_le _
 ·simp [Ent,List.lookup,YT,Zfk,rtK]
 intro k hk1;by_cases c1:k<32
 ·obtain⟨a1,a2,a3,a4⟩:=Zwi hn k hk1;obtain⟨b1,b2⟩:=Ydl c1;have e:(2:Int) ^ (32-k)=2*Zfk k:=by
   rw[Zfk,if_pos c1,show 32-k=(31-k)+1 from qf,Int.pow_succ,Int.mul_comm]
  have hh:=Zwo c1;have hp:=WL (rtK n k+Zfk k) (rtK n k+Zfk k) qf qf qf qf;have hs:rtK n (k+1)=if (rtK n k+Zfk k)*(rtK n k+Zfk k)<=n then rtK n k+Zfk k else rtK n k:=by rw[rtK,Zfk,if_pos c1]
  rw[e]at a2
  generalize Zfk k=b at *
  generalize rtK n k=r at *
  by_cases c2:(r+b)*(r+b)<=n
  ·rw[if_pos c2]at hs;refine fA ?_;exact⟨k+1,qf,qf,qK,Za.refl _ _⟩
  ·rw[if_neg c2]at hs;refine fA ?_;exact⟨k+1,qf,qf,qK,Za.refl _ _⟩
 ·have hkl:k=32:=qf;subst hkl;rw[show Zfk 32=0 from rfl];refine xx ?_;exact ZP hk
theorem Zta (m:Int)(hm:0<=m/\m<=18446744073709551615)(hk:∀h' r,PH.le h h'->Nt h' r (m*m) 41->K r L h'):Zb prog 380 [.int .u64 m] L h K:=by
 refine ed func380 ?_;refine xx ?_;refine ZY fun b1 nb1 zb1=>?_;(try simp only[ZS]at nb1);refine xx ?_;refine YZ _ hm.1 hm.2 fun h1 r1 l1 n1=>?_;refine xx ?_;refine YZ _ hm.1 hm.2 fun h2 r2 l2 n2=>?_;refine xx ?_;refine Zb.ap (U6 _ _ (n1.up l2) n2 qh fun h3 r3 l3 n3 ap=>?_);simp only[Ap]at ap;obtain⟨p1,_⟩:=ap;obtain⟨sa,sk,sc,rfl⟩:=n3.sl;refine xx ?_;exact ZO (ZP (hk h3 _ (l1.trans (l2.trans l3)) n3))
theorem Zxe (a b:Int):J2 a b<=0↔a<=b:=by
 unfold J2;split
 ·constructor<;>omega
 ·split
  ·constructor<;>omega
  ·constructor<;>omega
theorem Zxf (n:Int)(hn:0<=n/\n<=18446744073709551615)(hk:∀h',PH.le h h'->K (.int .u64 (JC n)) L h'):Zb prog 370 [.int .u64 n] L h K:=by
 refine ed func370 ?_;refine xx ?_;refine Yi (γ:=Int×Int×PH) (0,4294967296,h) (fun s=>0<=s.1/\s.1<s.2.1/\s.2.1<=4294967296/\s.1*s.1<=n/\n<s.2.1*s.2.1/\PH.le h s.2.2) (fun s=>[(4,.int .u64 s.2.1),(3,.int .u64 s.1),(0,.int .u64 n)]) (fun _=>L) (fun s=>s.2.2) (fun s=>(s.2.1-s.1).toNat) ?_ ?_ ?_ ?_
 ·exact⟨Int.le_refl _,show (0:Int)<4294967296 from qh,show (4294967296:Int)<=4294967296 from qh,by simpa using hn.1,by show n<4294967296*4294967296;omega,PH.le_refl _⟩
 ·simp [Ent,List.lookup,YT]
 ·exact Za.refl _ _
 rintro⟨lo,hi,h1⟩ ⟨i1,i2,i3,i4,i5,i6⟩;simp only at i1 i2 i3 i4 i5 i6 ⊢;by_cases c1:1<hi-lo
 ·obtain⟨m,hm⟩:∃m,m=lo+(hi-lo)/2:=⟨_,rfl⟩
  have m1:lo<m/\m<hi:=qf;simp -dsimp -implicitDefEqProofs (disch:=first|exact dD|fail) [go_sem,<- hm];refine Zta m qf fun h2 r2 l2 n2=>?_;refine xx ?_;refine YZ n hn.1 hn.2 fun h3 r3 l3 n3=>?_;refine xx ?_;refine UV _ _ (n2.up l3) n3 ?_;by_cases c2:m*m<=n
  ·have c3:=(Zxe (m*m) n).2 c2;refine xx ?_;exact⟨m,hi,h3,⟨qf,qf,i3,c2,i5,i6.trans (l2.trans l3)⟩,qf,qi,Za.refl _ _⟩
  ·have c3:¬J2 (m*m) n<=0:=fun x=>c2 ((Zxe _ _).1 x);refine xx ?_;exact⟨lo,m,h3,⟨i1,qf,qf,i4,qf,i6.trans (l2.trans l3)⟩,qf,qi,Za.refl _ _⟩
 ·have e:hi=lo+1:=qf;rw[e]at i5;have hr:=Ygk hn i1 i4 i5;rw[hr];refine xx ?_;exact ZP (hk h1 i6)
theorem Zzl (mode:Int)(hk:K (.bool (decide (mode=3\/mode=4))) L h):Zb prog 271 [.int .i64 mode] L h K:=by
 refine ed func271 ?_;by_cases c:mode=3
 ·rw[decide_eq_true (Or.inl c)]at hk;refine xx ?_;exact ZP hk
 ·rw[show decide (mode=3\/mode=4)=decide (mode=4) by apply decide_eq_decide.2;omega]at hk;refine xx ?_;exact ZP hk
theorem Znr (mode:Int)(hk:K (.bool (decide (mode=3\/mode=4))) L h):Zb prog 236 [.int .i64 mode] L h K:=by
 refine ed func236 ?_;by_cases c:mode=3
 ·rw[decide_eq_true (Or.inl c)]at hk;refine xx ?_;exact ZP hk
 ·rw[show decide (mode=3\/mode=4)=decide (mode=4) by apply decide_eq_decide.2;omega]at hk;refine xx ?_;exact ZP hk
theorem Yvc {p:Ze}{ac:Int}(h1:ac≠0)(h2:¬ 4611686018427387904<ac):Zim p ac=dwN ac p.rate (1048576*JC ac):=by
 rw[Zim,if_neg];omega
theorem Zvh (p:Ze)(ok:Zj p)(hr:Yo p=true)(ac:Int)(ha:0<=ac/\ac<=18446744073709551615)(hk:K (.int .u64 (Zim p ac)) L h):Zb prog 272 [WS p,.int .u64 ac] L h K:=by
 have ur:=ok.w p.rate qB;refine ed func272 ?_;refine xx ?_;refine ZY fun b1 nb1 zb1=>?_;(try simp only[ZS]at nb1);by_cases c1:ac=0
 ·rw[Zim,if_pos (.inl c1)]at hk;refine xx ?_;exact ZO (ZP hk)
 by_cases c2:4611686018427387904<ac
 ·rw[Zim,if_pos (.inr c2)]at hk;refine xx ?_;exact ZO (ZP hk)
 rw[Yvc c1 c2]at hk;have rp:=Zpw (n:=ac) qf;have rl:=(Zdi (n:=ac) qf).2.1;refine xx ?_;refine Vg p ok ?_;rw[hr];refine xx ?_;refine Z4 (.tk 0 (.tk 1 (.tk 3 (.tkl 2 (.o1 4 (.tk 5 (.o1 6 (.tk 7 (.tk 8 (.tk 9 (.tk 10 (.tk 11 (.fin)))))) (.nil))) (.nil)))))) qg qg _ (Za.refl _ _) ?_;refine xx ?_;refine Yfp ac ha ?_
 first
 | refine xkp (Za.refl _ _) ?_
 | skip
 refine xx ?_;refine Zbt ac p.rate (1048576*JC ac) ha ur qf ?_
 first
 | refine xkp (Za.refl _ _) ?_
 | skip
 refine xx ?_;by_cases c3:dwE ac p.rate (1048576*JC ac)=0
 ·refine xx ?_;exact ZO (ZP hk)
 ·rw[dwN,if_neg c3]at hk;refine xx ?_;exact ZO (ZP hk)
theorem Zmr (p:Ze)(ok:Zj p)(ac:Int)(ha:0<=ac/\ac<=18446744073709551615)(hk:∀h',PH.le h h'->K (.int .u64 (Zim p ac)) L h'):Zb prog 329 [WS p,.int .u64 ac] L h K:=by
 have ur:=ok.w p.rate qB;refine ed func329 ?_;refine xx ?_;refine ZY fun b1 nb1 zb1=>?_;(try simp only[ZS]at nb1);by_cases c1:ac=0
 ·have hk:=hk h (PH.le_refl _);rw[Zim,if_pos (.inl c1)]at hk;refine xx ?_;exact ZO (ZP hk)
 by_cases c2:4611686018427387904<ac
 ·have hk:=hk h (PH.le_refl _);rw[Zim,if_pos (.inr c2)]at hk;refine xx ?_;exact ZO (ZP hk)
 rw[Yvc c1 c2]at hk;have rp:=Zpw (n:=ac) qf;have rl:=(Zdi (n:=ac) qf).2.1;refine xx ?_;refine Z4 (.tk 0 (.tk 1 (.tk 3 (.tkl 2 (.o1 4 (.tk 5 (.o1 6 (.tk 7 (.tk 8 (.tk 9 (.tk 10 (.tk 11 (.fin)))))) (.nil))) (.nil)))))) qg qg _ (Za.refl _ _) ?_;refine xx ?_;refine Zxf ac ha fun h1 l1=>?_
 first
 | refine xkp (Za.forget l1) ?_
 | skip
 refine xx ?_;refine Zcd ac p.rate (1048576*JC ac) ha ur qf fun h2 l2=>?_
 first
 | refine xkp (Za.forget (l1.trans l2)) ?_
 | skip
 refine xx ?_;exact ZO (ZP (hk h2 (l1.trans l2)))
theorem Zla {zs:List Int}(most:Int)(v:Value)(hz:Ints h .u64 v zs)(hm:most<=18446744073709551615)(hk:K (.bool (decide (tot zs<=most))) L h):Zb prog 295 [.int .u64 most,v] L h K:=by
 refine ed func295 ?_;refine xx ?_;refine WO v hz ?_;by_cases c:tot zs<=18446744073709551615
 ·rw[YR c];refine xx ?_;exact ZP hk
 ·rw[decide_eq_false (show ¬tot zs<=most from qf)]at hk;rw[Wy c];refine xx ?_;exact ZP hk
theorem Yjv {p:Ze}(ok:Zj p){ac:Int}(ha:0<=ac/\ac<=18446744073709551615):0<=Zim p ac/\Zim p ac<=18446744073709551615:=by
 have ur:=ok.w p.rate qB;unfold Zim;split
 ·decide
 ·exact Yuu ha.1 ur.1 (by have:=(Zdi ha).1;omega)
theorem Yaf (p:Ze)(ok:Zj p)(hr:Yo p=true)(ac is most mode:Int)(ha:0<=ac/\ac<=18446744073709551615)(hi:0<=is/\is<=18446744073709551615)(hm:0<=most/\most<=18446744073709551615)(hk:∀h',PH.le h h'->K (.int .u64 (Zbg p ac is most mode)) L h') :
  Zb prog 196 [WS p,.int .u64 ac,.int .u64 is,.int .u64 most,.int .i64 mode] L h K:=by
 have bb:=Yjv ok ha;refine ed func196 ?_;refine xx ?_;refine ZY fun b1 nb1 zb1=>?_;(try simp only[ZS]at nb1);refine xx ?_;refine Zvh p ok hr ac ha ?_;refine xx ?_;refine Zzl mode ?_;by_cases c1:mode=3\/mode=4
 ·have hk:=hk h (PH.le_refl _);rw[Zbg,if_pos (.inl c1)]at hk;rw[decide_eq_true c1];refine xx ?_;exact ZO (ZP hk)
 ·rw[decide_eq_false c1];refine xx ?_;refine ZY fun b2 nb2 zb2=>?_;(try simp only[ZS]at nb2);refine xx ?_;refine Ws (sz:=1) (n:=2) (cap:=2) [] ⟨Nat.le_refl _,qh⟩ rfl qh zb2 fun h2 le2 s2 f2=>?_;refine Zla (zs:=[is,Zim p ac]) most _ ⟨s2,fun z hz=>?_⟩ hm.2 ?_
  ·simp only[List.mem_cons,List.not_mem_nil,or_false]at hz;rcases hz with rfl|rfl<;>assumption
  have hk:=hk h2 le2;rw[Zxd];simp only[List.nil_append];by_cases c2:is+Zim p ac<=most
  ·rw[Zbg,if_neg qf]at hk;rw[decide_eq_true c2];refine xx ?_;exact ZO (ZP hk)
  ·rw[Zbg,if_pos (.inr qf)]at hk;rw[decide_eq_false c2];refine xx ?_;exact ZO (ZP hk)
theorem Yaq (a b:Int):0<J2 a b↔b<a:=by
 unfold J2;split
 ·constructor<;>omega
 ·split
  ·constructor<;>omega
  ·constructor<;>omega
theorem Zsy (p:Ze)(ok:Zj p)(ac is most mode:Int)(ha:0<=ac/\ac<=18446744073709551615)(hi:0<=is/\is<=18446744073709551615)(hm:0<=most/\most<=18446744073709551615)(hk:∀h',PH.le h h'->K (.int .u64 (Zbg p ac is most mode)) L h') :
  Zb prog 235 [WS p,.int .u64 ac,.int .u64 is,.int .u64 most,.bool (decide (mode=3\/mode=4))] L h K:=by
 have bb:=Yjv ok ha;refine ed func235 ?_;refine xx ?_;refine ZY fun b1 nb1 zb1=>?_;(try simp only[ZS]at nb1);refine xx ?_;refine Zmr p ok ac ha fun h1 l1=>?_;by_cases c1:mode=3\/mode=4
 ·have hk:=hk h1 l1;rw[Zbg,if_pos (.inl c1)]at hk;rw[decide_eq_true c1];refine xx ?_;exact ZO (ZP hk)
 ·rw[decide_eq_false c1];refine xx ?_;refine YZ is hi.1 hi.2 fun h2 r2 l2 n2=>?_;refine xx ?_;refine YZ _ bb.1 bb.2 fun h3 r3 l3 n3=>?_;refine xx ?_;refine UZ _ _ (n2.up l3) n3 ⟨qh,qh⟩ fun h4 r4 l4 n4=>?_;refine xx ?_;refine YZ most hm.1 hm.2 fun h5 r5 l5 n5=>?_;refine xx ?_;refine UV _ _ (n4.up l5) n5 ?_;have hk:=hk h5 (l1.trans (l2.trans (l3.trans (l4.trans l5))));by_cases c2:most<is+Zim p ac
  ·have c3:=(Yaq (is+Zim p ac) most).2 c2;rw[Zbg,if_pos (.inr c2)]at hk;refine xx ?_;exact ZO (ZP hk)
  ·have c3:¬ 0<J2 (is+Zim p ac) most:=fun x=>c2 ((Yaq _ _).1 x);rw[Zbg,if_neg qf]at hk;refine xx ?_;exact ZO (ZP hk)
theorem Yrb {a b:Int}(ha:0<=a/\a<=18446744073709551615)(hb:0<=b):0<=Wf a b/\Wf a b<=a:=by
 unfold Wf;split<;>omega
theorem Ydp (p:Ze)(ok:Zj p)(hr:Yo p=true)(m:Zc)(mo:Zf m)(n:Int)(hn:0<=n/\n<=18446744073709551615)(hk:K (.tuple #[Zdk (Uq p m n).1,.int .u64 (Uq p m n).2]) L h):Zb prog 198 [WS p,Zdk m,.int .u64 n] L h K:=by
 have ub:=mo.u m.bal qj;have uc:=ok.w p.cap qB;have fb:=Yrb uc ub.1;have fs:m.bal+min n (Wf p.cap m.bal)<=18446744073709551615:=by unfold Wf at *;split<;>omega
 unfold Uq at hk;refine eF func198 ?_;refine xx ?_;refine ZY fun b1 nb1 zb1=>?_;(try simp only[ZS]at nb1);refine xx ?_;refine ZY fun b2 nb2 zb2=>?_;(try simp only[ZS]at nb2);refine xx ?_;refine ZY fun b3 nb3 zb3=>?_;(try simp only[ZS]at nb3);refine xx ?_;refine Vg p ok ?_;rw[hr];refine xx ?_;refine Zdn p.cap m.bal uc ub ?_;refine xx ?_;refine Zkw n (Wf p.cap m.bal) hn fb.1 ?_;refine xx ?_;exact ZO (ZO (ZO (ZP hk)))
theorem Zvn (p:Ze)(ok:Zj p)(m:Zc)(mo:Zf m)(n:Int)(hn:0<=n/\n<=18446744073709551615)(hk:K (.tuple #[Zdk (Uq p m n).1,.int .u64 (Uq p m n).2]) L h):Zb prog 238 [WS p,Zdk m,.int .u64 n] L h K:=by
 have ub:=mo.u m.bal qj;have uc:=ok.w p.cap qB;unfold Uq Wf at hk;refine eF func238 ?_;refine xx ?_;refine ZY fun b1 nb1 zb1=>?_;(try simp only[ZS]at nb1);refine xx ?_;refine ZY fun b2 nb2 zb2=>?_;(try simp only[ZS]at nb2);refine xx ?_;refine ZY fun b3 nb3 zb3=>?_;(try simp only[ZS]at nb3);refine xx ?_;by_cases c1:m.bal<p.cap
 ·rw[if_pos qf]at hk;by_cases c2:n<=p.cap-m.bal
  ·rw[Int.min_eq_left c2,Int.sub_self]at hk;refine xx ?_;exact ZO (ZO (ZO (ZP hk)))
  ·rw[Int.min_eq_right qf]at hk;refine xx ?_;exact ZO (ZO (ZO (ZP hk)))
 ·rw[show (if m.bal<=p.cap then p.cap-m.bal else 0)=0 by split<;>omega]at hk;by_cases c2:n<=0
  ·rw[Int.min_eq_left c2,Int.sub_self]at hk;refine xx ?_;exact ZO (ZO (ZO (ZP hk)))
  ·rw[Int.min_eq_right qf]at hk;simp only[Int.add_zero,Int.sub_zero]at hk;refine xx ?_;exact ZO (ZO (ZO (ZP hk)))
theorem Zmd {p:Ze}(ok:Zj p)(hr:Yo p=true){m:Zc}(mo:Zf m)(mode:Int):0<=JW p m mode/\JW p m mode<=18446744073709551615:=by
 have ue:=mo.u m.eff qj;have us:=mo.u m.score qj;have hs:=Yc hr;have u1:=ok.w p.aQ qB;have u2:=ok.w p.aH qB;unfold JW;split
 ·exact Yux ue.1 us.1 u1.1
 ·split
  ·exact Yux ue.1 us.1 u2.1
  ·exact Yuu ue.1 hs.2.2.2.2.1 qh
theorem Ybl {p:Ze}(ok:Zj p)(hr:Yo p=true){m:Zc}(mo:Zf m)(mode:Int):0<=YV p m mode/\YV p m mode<=m.bal:=by
 have ub:=mo.u m.bal qj;have:=Zmd ok hr mo mode;unfold YV;split<;>omega
abbrev absV (p:Ze)(m:Zc)(mode:Int):Value := .agg #[.int .u64 m.bal,.int .u64 m.eff,.int .u64 m.score,.int .i64 m.ak,.int .u64 p.inc,.int .u64 p.aF,.int .u64 p.floor,.int .u64 p.cap,.int .u64 p.up,.int .u64 p.down,.int .u64 p.aP,.int .u64 p.aQ,.int .u64 p.aO,.int .u64 p.aH,.int .u64 p.recover,.int .u64 p.aA,.int .u64 p.rate,.int .u64 p.aX,.int .i64 p.delay,.int .i64 p.ak,.int .i64 p.aS,.int .i64 p.aJ,.int .i64 p.aG,.int .i64 p.aK,.int .i64 p.wait,.int .i64 p.aW,.int .i64 p.aN,.int .i64 p.aI,.int .i64 mode]
theorem Zzg (p:Ze)(ok:Zj p)(hr:Yo p=true)(m:Zc)(mo:Zf m)(mode:Int)(hk:K (.int .u64 (YV p m mode)) L h):Zb prog 357 [absV p m mode] L h K:=by
 have ub:=mo.u m.bal qj;have ue:=mo.u m.eff qj;have us:=mo.u m.score qj;have hs:=Yc hr;have u1:=ok.w p.aQ qB;have u2:=ok.w p.aH qB;have bq:=Zmd ok hr mo mode;unfold YV at hk;refine ed func357 ?_;refine xx ?_;refine ZY fun b1 nb1 zb1=>?_;(try simp only[ZS]at nb1);refine xx ?_;by_cases c1:mode=3
 ·have e1:Zao p m mode=uqE m.eff m.score p.aQ:=by rw[Zao,if_pos c1]
  have e2:JW p m mode=uqN m.eff m.score p.aQ:=by rw[JW,if_pos c1]
  rw[e1,e2]at hk;refine xx ?_;refine Ygw m.eff m.score p.aQ ue us u1 ?_;by_cases c2:uqE m.eff m.score p.aQ=0
  ·rw[if_pos c2]at hk;refine xx ?_;exact ZO (ZP hk)
  ·rw[if_neg c2]at hk;refine xx ?_;exact ZO (ZP hk)
 ·by_cases c3:mode=4
  ·have e1:Zao p m mode=uqE m.eff m.score p.aH:=by rw[Zao,if_neg c1,if_pos c3]
   have e2:JW p m mode=uqN m.eff m.score p.aH:=by rw[JW,if_neg c1,if_pos c3]
   rw[e1,e2]at hk;refine xx ?_;refine Ygw m.eff m.score p.aH ue us u2 ?_;by_cases c2:uqE m.eff m.score p.aH=0
   ·rw[if_pos c2]at hk;refine xx ?_;exact ZO (ZP hk)
   ·rw[if_neg c2]at hk;refine xx ?_;exact ZO (ZP hk)
  ·have e1:Zao p m mode=dwE m.eff p.aJ 10000:=by rw[Zao,if_neg c1,if_neg c3]
   have e2:JW p m mode=dwN m.eff p.aJ 10000:=by rw[JW,if_neg c1,if_neg c3]
   rw[e1,e2]at hk;refine xx ?_;refine Zbt m.eff p.aJ 10000 ue qf qh ?_;by_cases c2:dwE m.eff p.aJ 10000=0
   ·rw[if_pos c2]at hk;refine xx ?_;exact ZO (ZP hk)
   ·rw[if_neg c2]at hk;refine xx ?_;exact ZO (ZP hk)
theorem Yjp (p:Ze)(ok:Zj p)(hr:Yo p=true)(m:Zc)(mo:Zf m)(mode:Int)(hk:K (.int .u64 (YV p m mode)) L h):Zb prog 302 [WS p,Zdk m,.int .i64 mode] L h K:=by
 refine ed func302 ?_;refine xx ?_;refine ZY fun b1 nb1 zb1=>?_;(try simp only[ZS]at nb1);refine xx ?_;refine ZY fun b2 nb2 zb2=>?_;(try simp only[ZS]at nb2);refine xx ?_;refine Vg p ok ?_;rw[hr];refine xx ?_;refine Zzg p ok hr m mo mode ?_;refine xx ?_;exact ZO (ZO (ZP hk))
theorem Yjx (n r:Int)(hn:0<=n/\n<=18446744073709551615)(hr:0<=r/\r<=10000)(hk:K (.tuple #[.int .u64 (dwN n r 10000),.int .u64 (n-dwN n r 10000),.int .i64 0]) L h):Zb prog 358 [.int .u64 n,.int .i64 r] L h K:=by
 have h1:n*r<=n*10000:=Int.mul_le_mul_of_nonneg_left hr.2 hn.1;have h0:=Int.mul_nonneg hn.1 hr.1;have e:dwE n r 10000=0:=by
  unfold dwE;rw[if_neg qh,if_pos];omega
 have b:0<=dwN n r 10000/\dwN n r 10000<=n:=by rw[dwN,if_pos e];omega
 refine eu func358 ?_;refine xx ?_;refine Zbt n r 10000 hn qf qh ?_;rw[e];refine xx ?_;exact ZP hk
theorem Zsb (p:Ze)(ok:Zj p)(hr:Yo p=true)(n:Int)(hn:0<=n/\n<=18446744073709551615)(hk:K (.tuple #[.int .u64 (VR p n),.int .u64 (n-VR p n)]) L h):Zb prog 303 [WS p,.int .u64 n] L h K:=by
 have hs:=Yc hr;unfold VR at hk;refine eF func303 ?_;refine xx ?_;refine ZY fun b1 nb1 zb1=>?_;(try simp only[ZS]at nb1);refine xx ?_;refine Vg p ok ?_;rw[hr];refine xx ?_;refine Yjx n p.aG hn qf ?_;refine xx ?_;exact ZO (ZP hk)
def U4 (p:Ze)(m:Zc)(mode:Int):Zc:={ m with bal:=m.bal-YV p m mode }
theorem Zxa (p:Ze)(ok:Zj p)(hr:Yo p=true)(m:Zc)(mo:Zf m)(mode:Int)(hk:K (.tuple #[Zdk (U4 p m mode),.int .u64 (VR p (YV p m mode)),.int .u64 (YV p m mode-VR p (YV p m mode))]) L h):Zb prog 199 [WS p,Zdk m,.int .i64 mode] L h K:=by
 have ub:=mo.u m.bal qj;have fb:=Ybl ok hr mo mode;unfold U4 at hk;refine eu func199 ?_;refine xx ?_;refine ZY fun b1 nb1 zb1=>?_;(try simp only[ZS]at nb1);refine xx ?_;refine ZY fun b2 nb2 zb2=>?_;(try simp only[ZS]at nb2);refine xx ?_;refine ZY fun b3 nb3 zb3=>?_;(try simp only[ZS]at nb3);refine xx ?_;refine Yjp p ok hr m mo mode ?_;refine xx ?_;refine Zsb p ok hr (YV p m mode) qf ?_;refine xx ?_;exact ZO (ZO (ZO (ZP hk)))
theorem Zse (p:Ze)(ok:Zj p)(hr:Yo p=true)(m:Zc)(mo:Zf m)(mode:Int)(hk:∀h',PH.le h h'->K (.int .u64 (YV p m mode)) L h'):Zb prog 239 [WS p,Zdk m,.int .i64 mode] L h K:=by
 have ub:=mo.u m.bal qj;have ue:=mo.u m.eff qj;have us:=mo.u m.score qj;have hs:=Yc hr;have u1:=ok.w p.aQ qB;have u2:=ok.w p.aH qB;have bq:=Zmd ok hr mo mode;unfold YV at hk;refine ed func239 ?_;refine xx ?_;refine ZY fun b1 nb1 zb1=>?_;(try simp only[ZS]at nb1);refine xx ?_;refine ZY fun b2 nb2 zb2=>?_;(try simp only[ZS]at nb2);refine xx ?_;refine Zb.ap (Zcd m.eff p.aJ 10000 ue qf qh fun h1 l1 ap=>?_);simp only[Ap]at ap;obtain⟨q2,q1,_⟩:=ap;by_cases c1:mode=3
 ·have e1:Zao p m mode=uqE m.eff m.score p.aQ:=by rw[Zao,if_pos c1]
  have e2:JW p m mode=uqN m.eff m.score p.aQ:=by rw[JW,if_pos c1]
  rw[e1,e2]at hk;refine xx ?_;refine Zb.ap (Zyy m.eff m.score p.aQ ue us u1 fun h2 l2 ap=>?_);simp only[Ap]at ap;obtain⟨q22,q21,_⟩:=ap;have hk:=hk h2 (l1.trans l2);by_cases c2:uqE m.eff m.score p.aQ=0
  ·rw[if_pos c2]at hk;by_cases c4:m.bal<uqN m.eff m.score p.aQ
   ·rw[Int.min_eq_right qf]at hk;refine xx ?_;exact ZO (ZO (ZP hk))
   ·rw[Int.min_eq_left qf]at hk;refine xx ?_;exact ZO (ZO (ZP hk))
  ·rw[if_neg c2]at hk;refine xx ?_;exact ZO (ZO (ZP hk))
 ·by_cases c3:mode=4
  ·have e1:Zao p m mode=uqE m.eff m.score p.aH:=by rw[Zao,if_neg c1,if_pos c3]
   have e2:JW p m mode=uqN m.eff m.score p.aH:=by rw[JW,if_neg c1,if_pos c3]
   rw[e1,e2]at hk;refine xx ?_;refine Zb.ap (Zyy m.eff m.score p.aH ue us u2 fun h2 l2 ap=>?_);simp only[Ap]at ap;obtain⟨q22,q21,_⟩:=ap;have hk:=hk h2 (l1.trans l2);by_cases c2:uqE m.eff m.score p.aH=0
   ·rw[if_pos c2]at hk;by_cases c4:m.bal<uqN m.eff m.score p.aH
    ·rw[Int.min_eq_right qf]at hk;refine xx ?_;exact ZO (ZO (ZP hk))
    ·rw[Int.min_eq_left qf]at hk;refine xx ?_;exact ZO (ZO (ZP hk))
   ·rw[if_neg c2]at hk;refine xx ?_;exact ZO (ZO (ZP hk))
  ·have e1:Zao p m mode=dwE m.eff p.aJ 10000:=by rw[Zao,if_neg c1,if_neg c3]
   have e2:JW p m mode=dwN m.eff p.aJ 10000:=by rw[JW,if_neg c1,if_neg c3]
   rw[e1,e2]at hk;have hk:=hk h1 l1;by_cases c2:dwE m.eff p.aJ 10000=0
   ·rw[if_pos c2]at hk;by_cases c4:m.bal<dwN m.eff p.aJ 10000
    ·rw[Int.min_eq_right qf]at hk;refine xx ?_;exact ZO (ZO (ZP hk))
    ·rw[Int.min_eq_left qf]at hk;refine xx ?_;exact ZO (ZO (ZP hk))
   ·rw[if_neg c2]at hk;refine xx ?_;exact ZO (ZO (ZP hk))
theorem Zup (p:Ze)(ok:Zj p)(hr:Yo p=true)(n:Int)(hn:0<=n/\n<=18446744073709551615)(hk:∀h',PH.le h h'->K (.int .u64 (VR p n)) L h'):Zb prog 240 [WS p,.int .u64 n] L h K:=by
 have hs:=Yc hr;unfold VR at hk;refine ed func240 ?_;refine xx ?_;refine ZY fun b1 nb1 zb1=>?_;(try simp only[ZS]at nb1);refine xx ?_;refine Zcd n p.aG 10000 hn qf qh fun h1 l1=>?_;refine xx ?_;exact ZO (ZP (hk h1 l1))
def sdC (m:Zc):List Value:=[.int .u64 m.bal,.int .u64 m.eff,.int .u64 m.score,.int .i64 m.ak]
theorem G3 (m:Zc):(sdC m).length=4:=rfl
theorem Ykx {p:Ze}(hr:Yo p=true){m:Zc}(mo:Zf m):0<=YI p m/\YI p m<=71468255805440000:=by
 have hs:=Yc hr;have hb:=Zpq hr;have ue:=mo.u m.eff qj;unfold YI;split
 ·decide
 ·have s0:0<=min (max m.ak 0) p.ak/\min (max m.ak 0) p.ak<=64:=qf
  generalize min (max m.ak 0) p.ak=s at *
  have b1:=Int.mul_nonneg hs.2.2.1 s0.1;have b2:p.aS*s<=1000*64:=Int.mul_le_mul hs.2.2.2.1 s0.2 s0.1 qh;have b3:=Int.mul_nonneg ue.1 (show 0<=1000+p.aS*s from qf);have b4:m.eff*(1000+p.aS*s)<=1099511627776*65000:=Int.mul_le_mul qf qf qf qh;exact⟨b3,qf⟩
theorem Znd (p:Ze)(ok:Zj p)(hr:Yo p=true)(m:Zc)(mo:Zf m)(hk:K (.int .u64 (YI p m)) L h):Zb prog 299 [WS p,Zdk m] L h K:=by
 have hs:=Yc hr;have ue:=mo.u m.eff qj;have wb:=Ykx hr mo;refine ed func299 ?_;refine xx ?_;refine ZY fun b1 nb1 zb1=>?_;(try simp only[ZS]at nb1);refine xx ?_;refine ZY fun b2 nb2 zb2=>?_;(try simp only[ZS]at nb2);by_cases c:p.aF<m.eff
 ·rw[YI,if_pos c]at hk;refine xx ?_;exact ZO (ZO (ZP hk))
 ·rw[YI,if_neg c]at hk wb;have s0:0<=min (max m.ak 0) p.ak/\min (max m.ak 0) p.ak<=64:=qf;have b1:=Int.mul_nonneg hs.2.2.1 s0.1;have b2:p.aS*min (max m.ak 0) p.ak<=1000*64:=Int.mul_le_mul hs.2.2.2.1 s0.2 s0.1 qh;refine xE ?_;exact ZO (ZO (ZP hk))
theorem Zjr (p:Ze)(ok:Zj p)(hr:Yo p=true)(m:Zc)(mo:Zf m)(hk:K (.int .u64 (YI p m)) L h):Zb prog 330 [WS p,Zdk m] L h K:=by
 have hs:=Yc hr;have ue:=mo.u m.eff qj;have wb:=Ykx hr mo;have hbig:=Zpq hr;refine ed func330 ?_;refine xx ?_;refine ZY fun b1 nb1 zb1=>?_;(try simp only[ZS]at nb1);refine xx ?_;refine ZY fun b2 nb2 zb2=>?_;(try simp only[ZS]at nb2);by_cases c:p.aF<m.eff
 ·rw[YI,if_pos c]at hk;refine xx ?_;exact ZO (ZO (ZP hk))
 ·rw[YI,if_neg c]at hk wb;have s0:0<=min (max m.ak 0) p.ak/\min (max m.ak 0) p.ak<=64:=qf;obtain⟨s,hs'⟩:∃s:Nat,(s:Int)=min (max m.ak 0) p.ak:=⟨_,Int.toNat_of_nonneg s0.1⟩
  rw[<- hs']at hk wb s0;have m1:=Int.mul_nonneg hs.2.2.1 ue.1;have m2:p.aS*m.eff<=1000*1099511627776:=Int.mul_le_mul hs.2.2.2.1 qf ue.1 qh;obtain⟨z,hz⟩:∃z,z=p.aS*m.eff:=⟨_,rfl⟩
  have he:m.eff*(1000+p.aS*s)=1000*m.eff+s*z:=by rw[hz];grind
  rw[he]at hk wb;rw[<- hz]at m1 m2;refine xx ?_;refine Y1 (0:Nat) (fun k=>k<=s) (fun k=>[(6,.int .i64 k),(5,.int .u64 (1000*m.eff+k*z)),(2,.pointer (some ⟨b1,0,none⟩)),(3,.pointer (some ⟨b2,0,none⟩))]) (fun k=>s-k) ?_ ?_ ?_
  ·exact Nat.zero_le _
  ·simp [Ent,List.lookup]
  intro k hk1;have kz0:=Int.mul_nonneg (show (0:Int)<=k from qf) m1;have kz1:(k:Int)*z<=64*(1000*1099511627776):=Int.mul_le_mul qf m2 m1 qh;by_cases c1:k<s
  ·have e2:((k:Int)+1)*z=k*z+z:=by rw[Int.add_mul];simp
   by_cases c2:(k:Int)<m.ak
   ·refine fB ?_;exact⟨k+1,qf,qf,by simp [Ent,List.lookup,e2];omega,Za.refl _ _⟩
   ·omega
  ·have hkl:k=s:=qf;subst hkl;by_cases c2:(k:Int)<m.ak
   ·refine fB ?_;exact ZO (ZO (ZP hk))
   ·refine fB ?_;exact ZO (ZO (ZP hk))
theorem Yiu {zs:List Int}{B:Int}(hz:∀i,at0 zs i<=B):∀k:Nat,YE zs k<=k*B
 | 0=>by simp [YE]
 | k+1=>by
  have:=Yiu hz k;have:=hz k;rw[YE,Int.natCast_add,Int.add_mul];simp;omega
theorem Ygy {p:Ze}(hr:Yo p=true){l:List Zc}(hm:∀x∈l,Zf x)(hn:l.length<=128):Zay (l.map (YI p))=0:=by
 have hz:∀i,at0 (l.map (YI p)) i<=71468255805440000:=fun i=>by
  by_cases c:i<(l.map (YI p)).length
  ·rw[<- Ys c,List.getElem_map];exact(Ykx hr (hm _ (List.getElem_mem _))).2
  ·rw[U7 qf];decide
 have h1:=Yiu hz (l.map (YI p)).length;rw[Zay,if_pos qI,if_pos];rw[tot];rw[List.length_map]at h1 ⊢;omega
theorem Ymg (p:Ze)(ok:Zj p)(hr:Yo p=true)(m:Zc)(mo:Zf m)(b1 b7:Nat)(o:Option (Nat×Nat))(xs:List Value)(n17:b1≠b7)(ho:apB o b1)(hb:h b1=noC)
  (hk:K (.int .u64 (YI p m)) (⟨b7,72,sdC m,4⟩::oent 22 1 o xs (⟨b1,24,Jj p,24⟩::L)) h) :
  Zb prog 298 [Zdk m,.pointer (some ⟨b1,0,none⟩)] (⟨b7,72,sdC m,4⟩::oent 22 1 o xs (⟨b1,24,Jj p,24⟩::L)) h K:=by
 simp only[sdC]at hk ⊢;refine ed func298 ?_;refine xx ?_;refine ZY fun b2 nb2 zb2=>?_;(try simp only[ZS]at nb2);have n2:=Yx nb2.2;simp only[ZS]at n2;simp -dsimp -implicitDefEqProofs (disch:=first|exact dD|fail) [go_sem,ZR ho];refine Znd p ok hr m mo ?_;refine xx ?_;exact ZO (ZP hk)
theorem Ybi {l:List Zc}(p:Ze)(ok:Zj p)(hr:Yo p=true)(v:Value)(hd0:Zd sdC 4 h v l)(hm:∀x∈l,Zf x)(hn:l.length<=100000)(b1:Nat)
  (hk:∀h' r,PH.le h h'->Ints h' .u64 r (l.map (YI p))->K r (⟨b1,24,Jj p,24⟩::L) h') :
  Zb prog 297 [.func (.func 298) #[] #[.pointer (some ⟨b1,0,none⟩)],v] (⟨b1,24,Jj p,24⟩::L) h K:=by
 obtain⟨a,c,rfl,hc,hl,_,hd⟩:=hd0.open;refine eH func297 fun ap nd=>?_;simp only[Ap]at ap;have hb1:=ap.1;clear ap nd;refine xx ?_;refine Yi (γ:=Nat×Option (Nat×Nat)) (0,none) (fun s=>s.1<=l.length/\okO s.2 s.1/\apO s.2 (⟨b1,24,Jj p,24⟩::L) h) (fun s=>[(10,.int .i64 s.1),(9,.int .i64 l.length),(8,.slice a l.length c),(5,ovs s.2 s.1),(0,.func (.func 298) #[] #[.pointer (some ⟨b1,0,none⟩)])])
  (fun s=>oent 22 1 s.2 (Jg (YI p) l s.1) (⟨b1,24,Jj p,24⟩::L)) (fun _=>h) (fun s=>l.length-s.1) ?_ ?_ ?_ ?_
 ·exact⟨Nat.zero_le _,rfl,trivial⟩
 ·simp [Ent,List.lookup,YT,ovs]
 ·exact Za.refl _ _
 rintro⟨k,o⟩ ⟨k1,k2,k3⟩;simp only at k1 k2 k3 ⊢;by_cases c1:k<l.length
 ·have hmem:gr ZQ l k∈l:=by rw[Ye c1];exact List.getElem_mem c1
  have m1:apB o b1:=k3.head;simp -dsimp -implicitDefEqProofs (disch:=first|exact dD|fail) [go_sem,↓Us ZQ qh hd,sdC];refine ZY fun b7 nb7 zb7=>?_;(try simp only[ZS]at nb7);have n7:=Yx nb7;simp only[ZS]at n7;simp -dsimp -implicitDefEqProofs (disch:=first|exact dD|fail) [go_sem,sdC];refine Ymg p ok hr (gr ZQ l k) (hm _ hmem) b1 b7 o _ n7.1 m1 hb1 ?_;simp only[sdC];refine xx ?_;refine ZY fun b8 nb8 zb8=>?_;(try simp only[ZS]at nb8);refine xx ?_;refine ZZ (t:=25) (e:=22) (sz:=1) (bytes:=8) qg Vw rfl rfl rfl rfl qh [_,_] _ o k (Jg (YI p) l k) k2 (Wq k1) (Src.own List.mem_cons_self) (m:=1) (news:=[.int .u64 (YI p (gr ZQ l k))]) rfl qy qm qf ?_;intro o' j1 j2 j3;refine xx ?_;refine⟨k+1,o',⟨qf,j1,ZV (ZV j2)⟩,qf,qi,?_⟩;rw[Vu ZQ c1];exact(Za.tail _ _ _).trans (Za.tail _ _ _)
 ·have hkl:k=l.length:=qf;subst hkl;refine xx ?_;exact Yv (n:=l.length) k2 (Wq (Nat.le_refl _)) qf k3 fun h' le sl=>ZP (hk h' _ le (Jr sl fun x hx=>by have:=Ykx hr (hm x hx);omega))
def Ui (p:Ze)(n:Int)(l:List Zc):List Int:=Yt n (tot (l.map (YI p))) (l.map (YI p))
theorem UD (p:Ze)(n:Int)(l:List Zc):(Ui p n l).length=l.length:=by simp [Ui,Yt]
theorem Zjm {p:Ze}(hr:Yo p=true){n:Int}(hn:0<=n){l:List Zc}(hm:∀x∈l,Zf x)(i:Nat):0<=at0 (Ui p n l) i/\at0 (Ui p n l) i<=n:=by
 have h0:∀i,0<=at0 (l.map (YI p)) i:=fun i=>by
  by_cases c:i<(l.map (YI p)).length
  ·rw[<- Ys c,List.getElem_map];exact(Ykx hr (hm _ (List.getElem_mem _))).1
  ·rw[U7 qf];decide
 by_cases c:i<(l.map (YI p)).length
 ·unfold Ui Yt;rw[Gy _ _ c];exact Zrk hn (h0 i) (Yj h0 i)
 ·rw[U7 (by rw[UD];simpa using c)];omega
theorem Zbw {p:Ze}(hr:Yo p=true){n:Int}(hn:0<=n/\n<=18446744073709551615){l:List Zc}(hm:∀x∈l,Zf x){h:PH}{v:Value}(sl:Sl h v l.length 1 ((Ui p n l).map (.int .u64))):Ints h .u64 v (Ui p n l):=by
 refine⟨by rw[UD];exact sl,fun z hz=>?_⟩;obtain⟨i,hi,rfl⟩:=List.mem_iff_getElem.1 hz;have:=Zjm hr hn.1 hm i;rw[Ys hi];rw[show IntKind.u64.min=0 from qh,show IntKind.u64.max=18446744073709551615 from qh];omega
theorem Zrr {l:List Zc}(p:Ze)(ok:Zj p)(hr:Yo p=true)(v:Value)(hd0:Zd sdC 4 h v l)(hm:∀x∈l,Zf x)(hn:l.length<=128)(n:Int)(hb:0<=n/\n<=18446744073709551615)
  (hk:∀h' r,PH.le h h'->Ints h' .u64 r (Ui p n l)->K (.tuple #[r,.int .u64 (n-tot (Ui p n l)),.int .i64 0]) L h') :
  Zb prog 197 [WS p,.int .u64 n,v] L h K:=by
 obtain⟨a,c,rfl,hc,hl,_,hd⟩:=hd0.open;have hw:=Ygy hr hm hn;refine eu func197 ?_;refine xx ?_;refine ZY fun b1 nb1 zb1=>?_;(try simp only[ZS]at nb1);refine xx ?_;refine Vg p ok ?_;rw[hr];refine xx ?_;refine Zb.ap (Ybi p ok hr _ hd0 hm qf b1 fun h1 r1 l1 i1 ap=>?_);simp only[Ap]at ap;obtain⟨p1,_⟩:=ap;obtain⟨ra,rc,rfl,_⟩:=i1.open;rw[List.length_map]at i1;refine xx ?_;refine Ybk n hb _ i1 (fun e=>absurd hw e) fun _ o j1 j2=>?_;obtain⟨x,y,e,hxy⟩:=Z5 j1;rw[e];refine xx ?_;have hlen:(l.map (YI p)).length=l.length:=List.length_map _;refine Yv (n:=(l.map (YI p)).length) j1 wG qf j2 fun h' le sl=>ZO (ZP ?_);rw[e,hlen]at sl;exact hk h' _ (l1.trans le) (Zbw hr hb hm sl)
theorem Zke {l:List Zc}(p:Ze)(ok:Zj p)(hr:Yo p=true)(v:Value)(hd0:Zd sdC 4 h v l)(hm:∀x∈l,Zf x)(hn:l.length<=128)(n:Int)(hb:0<=n/\n<=18446744073709551615)
  (hk:∀h' r,PH.le h h'->Ints h' .u64 r (Ui p n l)->K (.tuple #[r,.int .u64 (n-tot (Ui p n l))]) L h') :
  Zb prog 237 [WS p,.int .u64 n,v] L h K:=by
 obtain⟨a,c,rfl,hc,hl,_,hd⟩:=hd0.open;have hw:=Ygy hr hm hn;refine eF func237 ?_;refine xx ?_;refine ZY fun b1 nb1 zb1=>?_;(try simp only[ZS]at nb1);refine xx ?_;refine Yi (γ:=Nat×Option (Nat×Nat)) (0,none) (fun s=>s.1<=l.length/\okO s.2 s.1/\apO s.2 (⟨b1,39,Jj p,24⟩::L) h) (fun s=>[(9,.int .i64 s.1),(8,ovs s.2 s.1),(3,.pointer (some ⟨b1,0,none⟩)),(2,.slice a l.length c),(1,.int .u64 n)])
  (fun s=>oent 22 1 s.2 (Jg (YI p) l s.1) (⟨b1,39,Jj p,24⟩::L)) (fun _=>h) (fun s=>l.length-s.1) ?_ ?_ ?_ ?_
 ·exact⟨Nat.zero_le _,rfl,trivial⟩
 ·simp [Ent,List.lookup,YT,ovs]
 ·exact Za.refl _ _
 rintro⟨k,o⟩ ⟨k1,k2,k3⟩;simp only at k1 k2 k3 ⊢;by_cases c1:k<l.length
 ·have hmem:gr ZQ l k∈l:=by rw[Ye c1];exact List.getElem_mem c1
  have m1:apB o b1:=k3.head;refine xx ?_;refine Z4 (.tk 0 (.tk 2 (.tk 3 (.tk 4 (.tkl 1 (.tkl 5 (.o1 6 (.o1 7 (.o1 8 (.tk 9 (.fin)) (.nil)) (.nil)) (.nil)))))))) qg qg [⟨b1,39,Jj p,24⟩] ((Za.oent _ _ _ _ _ _).trans (Za.mem qj)) ?_;simp -dsimp -implicitDefEqProofs (disch:=first|exact dD|fail) [go_sem,↓Us ZQ qh hd,sdC,ZR m1];refine Zjr p ok hr (gr ZQ l k) (hm _ hmem) ?_
  first
  | refine xkp ((Za.oent _ _ _ _ _ _).trans (Za.mem qj)) ?_
  | skip
  refine xx ?_;refine ZY fun b8 nb8 zb8=>?_;(try simp only[ZS]at nb8);refine xx ?_;refine xkp ((Za.tail _ _ _).trans ((Za.oent _ _ _ _ _ _).trans (Za.mem qj))) ?_;refine xx ?_;refine ZZ (t:=25) (e:=22) (sz:=1) (bytes:=8) qg Vw rfl rfl rfl rfl qh [_] _ o k (Jg (YI p) l k) k2 (Wq k1) (Src.own List.mem_cons_self) (m:=1) (news:=[.int .u64 (YI p (gr ZQ l k))]) rfl qy qm qf ?_;intro o' j1 j2 j3
  first
  | refine xkp ((Za.tail _ _ _).trans ((Za.oent _ _ _ _ _ _).trans (Za.mem qj))) ?_
  | skip
  refine xx ?_;refine⟨k+1,o',⟨qf,j1,ZV j2⟩,qf,qi,?_⟩;rw[Vu ZQ c1];exact Za.tail _ _ _
 ·have hkl:k=l.length:=qf;subst hkl;refine xx ?_;refine WT (n:=l.length) k2 (Wq (Nat.le_refl _)) qf k3 fun h1 l1 sl=>?_;have i1:=Jr sl fun x hx=>by have:=Ykx hr (hm x hx);omega
  obtain⟨x1,y1,e1,_⟩:=Z5 k2;rw[e1]at i1 ⊢;refine Zry n hb _ i1 hw fun h2 o2 l2 j1 j2=>?_;obtain⟨x,y,e,hxy⟩:=Z5 j1;rw[e];refine xx ?_;have hlen:(l.map (YI p)).length=l.length:=List.length_map _;refine Yv (n:=(l.map (YI p)).length) j1 wG qf j2 fun h' le sl=>ZO (ZP ?_);rw[e,hlen]at sl;have:=hk h' _ (l1.trans (l2.trans le)) (Zbw hr hb hm sl)
  first
  | exact this
  | (rw[hlen];exact this)
end Go.X
