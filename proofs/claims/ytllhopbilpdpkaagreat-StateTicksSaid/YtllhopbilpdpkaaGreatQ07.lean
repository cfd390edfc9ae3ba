/- Lemmas and contracts. Conditions: as each says. -/
import Derived.Laws.MathBits
import Derived.Test.YtllhopbilpdpkaaGreatQ06
set_option linter.unusedVariables false
set_option linter.unusedSimpArgs false
set_option maxHeartbeats 12800000
set_option maxRecDepth 20000
namespace Go.X
open Go.RowKit Go.Proofs Go.Bl Go.Proofs.Tryz
variable {L:Own} {h:PH} {K:PK}
theorem Zrf (n:Int)(h1 : -9223372036854775808<=n)(h2:n<=9223372036854775807)(hk:K (.int .i64 (Zjw n)) L h):Zb prog 180 [.int .i64 n] L h K:=by
 refine ed func180 ?_;refine xx ?_;unfold Zjw at hk;refine Y6 (fun c=>?_) (fun c=>?_)
 ·refine xx ?_;exact ZP qC
 ·refine xx ?_;exact ZP qC
theorem Ykf (a:Option Addr)(len cap:Nat)(i:Int)(hi:¬(0<=i/\i/8<(len:Int)))(h2:i<=9223372036854775807)(hk:K (.tuple #[.int .i64 0,.int .u8 0,.bool false]) L h) :
  Zb prog 182 [.slice a len cap,.int .i64 i] L h K:=by
 refine eu func182 ?_;refine xx ?_;by_cases c:i<0
 ·refine xx ?_;exact ZP hk
 ·refine xx ?_;exact ZP hk
theorem Yfm (a:Option Addr)(len cap:Nat)(i:Int)(h0:0<=i)(h1:i/8<(len:Int))(h2:i<=9223372036854775807)(hk:K (.tuple #[.int .i64 (i/8),.int .u8 (2 ^ (i%8).toNat%256),.bool true]) L h) :
  Zb prog 182 [.slice a len cap,.int .i64 i] L h K:=by
 refine eu func182 ?_;refine xx ?_;refine WX qg rfl ?_;have e:(min (i%8).toNat 8)=(i%8).toNat:=qf;simp -dsimp -implicitDefEqProofs (disch:=first|exact dD|fail) [go_sem,IntKind.bits,e,Int.one_mul];rw[Zng];exact ZP hk
theorem Zhg {bs:List Int}(v:Value)(i:Int)(hb:Ints h .u8 v bs)(hi:i<=9223372036854775807)(hk:K (.bool (Wm bs i)) L h):Zb prog 68 [v,.int .i64 i] L h K:=by
 have hbd:=hb.byte;obtain⟨a,cap,rfl,hn,hc,ha,hcs⟩:=hb.open;refine ed func68 ?_;refine xx ?_;by_cases c:0<=i/\i/8<(bs.length:Int)
 ·refine Yfm _ _ _ _ c.1 c.2 hi ?_;refine xe ?_;refine ZP ?_;have hx:=Zlh _ (i%8).toNat (hbd (i/8).toNat).1 (hbd (i/8).toNat).2 qf;rw[Zif _ _ c.1 c.2,<- hx]at hk;exact hk
 ·refine Ykf _ _ _ _ c hi ?_;refine xx ?_;rw[Zps _ _ c]at hk;exact ZP hk
theorem Zlt {bs:List Int}(v:Value)(n:Int)(hb:Ints h .u8 v bs)(h1 : -9223372036854775808<=n)(h2:n<=9223372036854775807)(hk:K (.int .i64 (if Gn bs n then 0 else 60)) L h) :
  Zb prog 66 [v,.int .i64 n] L h K:=by
 have hbd:=hb.byte;obtain⟨a,cap,rfl,hn,hc,ha,hcs⟩:=hb.open;refine ed func66 ?_;refine xx ?_;unfold Gn at hk;refine Y6 (fun c1=>?_) (fun c1=>?_)
 ·refine xx ?_;exact ZP (by simpa [show ¬(0<=n) from qf] using hk)
 refine xx ?_;refine Y6 (fun c2=>?_) (fun c2=>?_)
 ·refine xx ?_;exact ZP (by simpa [show ¬(n<=256) from qf] using hk)
 refine xx ?_;refine Zrf _ h1 h2 ?_;refine xx ?_;refine Y6 (fun c3=>?_) (fun c3=>?_)
 ·have hs:=Zqa n qf;have hk':K (.int .i64 (if (!(decide (n%8>0)&&decide (at0 bs (bs.length-1)/2 ^ (n%8).toNat≠0))) then 0 else 60)) L h:=by
   simpa [c3,show 0<=n from qf,show n<=256 from qf] using hk
  refine xx ?_;refine Y6 (fun c4=>?_) (fun c4=>?_)
  ·have hb2:=hbd (bs.length-1);have e1:min (n%8).toNat 8=(n%8).toNat:=qf;have e2:((bs.length:Int)-1).toNat=bs.length-1:=qf;simp -dsimp -implicitDefEqProofs (disch:=first|exact dD|fail) [go_sem,idx hcs,IntKind.bits,e1,e2];refine Y6 (fun c5=>?_) (fun c5=>?_)
   ·refine xx ?_;exact ZP (by simpa [c4,c5] using hk')
   ·refine xx ?_;exact ZP (by simpa [c4,c5] using hk')
  ·refine xx ?_;exact ZP (by simpa [c4] using hk')
 ·refine xx ?_;exact ZP (by simpa [c3] using hk)
theorem GT {bs:List Int}(v:Value)(i:Int)(hb:Ints h .u8 v bs)(hi:i<=9223372036854775807)(hk:K (.bool (Wm bs i)) L h):Zb prog 72 [v,.int .i64 i] L h K:=by
 have hbd:=hb.byte;obtain⟨a,cap,rfl,hn,hc,ha,hcs⟩:=hb.open;refine ed func72 ?_;refine xx ?_;by_cases c:0<=i/\i/8<(bs.length:Int)
 ·obtain⟨c0,c1⟩:=c;have hb2:=hbd (i/8).toNat;refine xe ?_;refine Y1 (0:Nat) (fun k=>(k:Int)<=i%8) (fun k=>[(5,.int .i64 (at0 bs (i/8).toNat/2 ^ k)),(6,.int .i64 k),(1,.int .i64 i)]) (fun k=>(i%8).toNat-k) ?_ ?_ ?_
  ·simp;omega
  ·simp [Ent,List.lookup,YT]
  intro k hk2;have hx0:0<=at0 bs (i/8).toNat/2 ^ k:=Int.ediv_nonneg hb2.1 (Int.le_of_lt (Int.pow_pos qh));have hx1:at0 bs (i/8).toNat/2 ^ k<=255:=Int.le_trans (Int.ediv_le_self _ hb2.1) hb2.2;refine xx ?_;refine Y6 (fun c2=>?_) (fun c2=>?_)
  ·refine xx ?_;exact⟨k+1,qf,qf,by simp [Ent,List.lookup,Int.pow_succ,Int.ediv_ediv_of_nonneg,Int.pow_nonneg],Za.refl _ _⟩
  ·have e:(i%8).toNat=k:=qf;rw[Zif _ _ c0 c1,e]at hk;refine xx ?_;exact ZP hk
 ·rw[Zps _ _ c]at hk;by_cases c2:i<0
  ·refine xx ?_;exact ZP hk
  ·refine xx ?_;exact ZP hk
theorem Zth (bs:List Int)(n:Int)(hn:0<=n/\n<=256/\(bs.length:Int)=(n+7)/8)(k:Nat)(h1:∀j:Nat,n<=(j:Int)->j<k->Wm bs j=false)(h2:8*bs.length<=k):Uy bs n=true:=by
 unfold Uy;simp only[decide_eq_true hn,Bool.true_and,List.all_eq_true,List.mem_range,Bool.or_eq_true,decide_eq_true_eq,Bool.not_eq_true'];intro j hj;by_cases hjn:(j:Int)<n
 ·exact Or.inl hjn
 ·exact Or.inr (h1 j qf qf)
theorem Zzi (bs:List Int)(n:Int)(k:Nat)(h1:n<=(k:Int))(h2:k<8*bs.length)(h3:Wm bs k=true):Uy bs n=false:=by
 unfold Uy;rw[Bool.and_eq_false_iff]
 right
 rw[List.all_eq_false];exact⟨k,List.mem_range.2 h2,by simp [h3];omega⟩
theorem Zsi {bs:List Int}(v:Value)(n:Int)(hb:Ints h .u8 v bs)(h1 : -9223372036854775808<=n)(h2:n<=9223372036854775807)(hk:K (.bool (Uy bs n)) L h) :
  Zb prog 71 [v,.int .i64 n] L h K:=by
 obtain⟨a,cap,rfl,hn,hc,ha,hcs⟩:=hb.open;refine ed func71 ?_;refine xx ?_;refine Y6 (fun c1=>?_) (fun c1=>?_)
 ·rw[show Uy bs n=false by simp [Uy];omega]at hk;refine xx ?_;exact ZP hk
 refine xx ?_;refine Y6 (fun c2=>?_) (fun c2=>?_)
 ·rw[show Uy bs n=false by simp [Uy];omega]at hk;refine xx ?_;exact ZP hk
 refine xx ?_;refine Y6 (fun c3=>?_) (fun c3=>?_)
 ·refine xx ?_;refine Y1 (n.toNat) (fun k=>n<=k/\k<=8*bs.length+n/\∀j:Nat,n<=(j:Int)->j<k->Wm bs j=false) (fun k=>[(5,.int .i64 k),(0,.slice a bs.length cap)]) (fun k=>8*bs.length+1-k) ?_ ?_ ?_
  ·exact⟨qf,qf,fun j h1 h2=>qf⟩
  ·simp [Ent,List.lookup,YT];omega
  intro k ⟨hk1,hk2,hk3⟩;refine xx ?_;refine Y6 (fun c4=>?_) (fun c4=>?_)
  ·refine xx ?_;refine GT _ _ hb qf ?_;refine xx ?_
   cases hg:Wm bs k with
   | true =>
    rw[Zzi bs n k hk1 qf hg]at hk;refine xx ?_;exact ZP hk
   | false =>
    refine xx ?_;refine⟨k+1,⟨qf,qf,fun j h1 h2=>?_⟩,qf,qi,Za.refl _ _⟩;by_cases hj:j=k
    ·subst hj;exact hg
    ·exact hk3 j h1 qf
  ·rw[Zth bs n ⟨qf,qf,c3⟩ k hk3 qf]at hk;refine xx ?_;exact ZP hk
 ·rw[show Uy bs n=false by simp [Uy,c3]]at hk;refine xx ?_;exact ZP hk
theorem Zyx {xs ys:List Int}(hl:xs.length=ys.length)(he:∀j,j<xs.length->at0 xs j=at0 ys j):xs=ys:=by
 apply List.ext_getElem hl;intro j h1 h2;rw[Ys h1,Ys h2];exact he j h1
theorem Yqz {xs ys:List Int}(v u:Value)(hx:Ints h .u8 v xs)(hy:Ints h .u8 u ys)(hk:K (.bool (decide (xs=ys))) L h):Zb prog 339 [v,u] L h K:=by
 obtain⟨a,ca,rfl,hna,hca,_,hcx⟩:=hx.open;obtain⟨b,cb,rfl,hnb,hcb,_,hcy⟩:=hy.open;refine ed func339 ?_;refine xx ?_;refine Y6 (fun c1=>?_) (fun c1=>?_)
 ·refine xx ?_;refine Y1 (0:Nat) (fun k=>k<=xs.length/\∀j,j<k->at0 xs j=at0 ys j) (fun k=>[(5,.int .i64 k),(0,.slice a xs.length ca),(1,.slice b ys.length cb)]) (fun k=>xs.length-k) ?_ ?_ ?_
  ·exact⟨Nat.zero_le _,fun j hj=>qf⟩
  ·simp [Ent,List.lookup,YT]
  intro k ⟨hk1,hk2⟩;refine xx ?_;refine Y6 (fun c2=>?_) (fun c2=>?_)
  ·refine xx ?_;refine WX qg rfl ?_;refine xg ?_;refine Y6 (fun c3=>?_) (fun c3=>?_)
   ·refine xx ?_;refine⟨k+1,⟨qf,fun j hj=>?_⟩,qf,qi,Za.refl _ _⟩;by_cases e:j=k
    ·subst e;exact c3
    ·exact hk2 j qf
   ·have hne:xs≠ys:=fun e=>c3 (by rw[e]);rw[decide_eq_false hne]at hk;refine xx ?_;exact ZP hk
  ·have he:xs=ys:=Zyx qf fun j hj=>hk2 j qf;rw[decide_eq_true he]at hk;refine xx ?_;exact ZP hk
 ·have hne:xs≠ys:=fun e=>c1 (by rw[e]);rw[decide_eq_false hne]at hk;refine xx ?_;exact ZP hk
theorem WL (x y:Int)(h0:0<=x)(h1:x<=4294967295)(h2:0<=y)(h3:y<=4294967295):0<=x*y/\x*y<=18446744065119617025:=by
 constructor
 ·exact Int.mul_nonneg h0 h2
 ·exact Int.le_trans (Int.mul_le_mul h1 h3 h2 qh) qh
theorem Yuh (a b:Int)(h0:0<=a)(h2:0<=b) :
  a/4294967296*(b/4294967296)+(a/4294967296*(b%4294967296)+a%4294967296*(b%4294967296)/4294967296)/4294967296 +
   ((a/4294967296*(b%4294967296)+a%4294967296*(b%4294967296)/4294967296)%4294967296+a%4294967296*(b/4294967296))/4294967296=a*b/18446744073709551616:=by
 have ha:a=a/4294967296*4294967296+a%4294967296:=qf;have hb:b=b/4294967296*4294967296+b%4294967296:=qf;have e:a*b=a/4294967296*(b/4294967296)*18446744073709551616+(a/4294967296*(b%4294967296)+a%4294967296*(b/4294967296))*4294967296+a%4294967296*(b%4294967296):=by
  generalize a/4294967296=a1 at *
  generalize a%4294967296=a0 at *
  generalize b/4294967296=b1 at *
  generalize b%4294967296=b0 at *
  subst ha;subst hb;rw[Int.add_mul,Int.mul_add,Int.mul_add,Int.add_mul];have e1:a1*4294967296*(b1*4294967296)=a1*b1*18446744073709551616:=by
   rw[Int.mul_assoc,Int.mul_comm 4294967296 (b1*4294967296),Int.mul_assoc b1,<- Int.mul_assoc a1];rfl
  have e2:a1*4294967296*b0=a1*b0*4294967296:=by rw[Int.mul_assoc,Int.mul_comm 4294967296 b0,<- Int.mul_assoc]
  have e3:a0*(b1*4294967296)=a0*b1*4294967296:=by rw[Int.mul_assoc]
  rw[e1,e2,e3];omega
 have p1:=Int.mul_nonneg (show 0<=a%4294967296 from qf) (show 0<=b%4294967296 from qf);rw[e]
 generalize a/4294967296*(b/4294967296)=p11
 generalize a/4294967296*(b%4294967296)=p10
 generalize a%4294967296*(b/4294967296)=p01
 generalize a%4294967296*(b%4294967296)=p00 at *
 omega
theorem Zrb (a b:Int)(h0:0<=a)(h1:a<=18446744073709551615)(h2:0<=b)(h3:b<=18446744073709551615):0<=a*b/18446744073709551616/\a*b/18446744073709551616<=18446744073709551614:=by
 have p0:=Int.mul_nonneg h0 h2;have p1:a*b<=18446744073709551615*18446744073709551615:=Int.mul_le_mul h1 h3 h2 qh;omega
theorem Yaz (a b:Int)(h0:0<=a)(h1:a<=18446744073709551615)(h2:0<=b)(h3:b<=18446744073709551615)(hk:K (.tuple #[.int .u64 (a*b/18446744073709551616),.int .u64 (a*b%18446744073709551616)]) L h) :
  Zb prog 290 [.int .u64 a,.int .u64 b] L h K:=by
 have a0:=and_low32 a h0 qf;have b0:=and_low32 b h2 qf;have q00:=WL (a%4294967296) (b%4294967296) qf qf qf qf;have q10:=WL (a/4294967296) (b%4294967296) qf qf qf qf;have q01:=WL (a%4294967296) (b/4294967296) qf qf qf qf;have q11:=WL (a/4294967296) (b/4294967296) qf qf qf qf;have hh:=Yuh a b h0 h2;have hb:=Zrb a b h0 h1 h2 h3;rw[<- hh]at hk hb;have t0:=and_low32 (a/4294967296*(b%4294967296)+a%4294967296*(b%4294967296)/4294967296) qf qf;refine eF func290 ?_;simp -dsimp -implicitDefEqProofs (disch:=first|exact dD|fail) [go_sem,a0,b0,t0,IntKind.bits];rw[Ju];exact ZP hk
theorem Zdj (a b:Int)(h0:0<=a)(h1:a<=18446744073709551615)(h2:0<=b)(h3:b<=18446744073709551615)(hk:K (.agg #[.int .u64 (a*b/18446744073709551616),.int .u64 (a*b%18446744073709551616)]) L h) :
  Zb prog 345 [.int .u64 a,.int .u64 b] L h K:=by
 refine ed func345 ?_;refine xx ?_;refine ZY fun b1 n1 hb1=>?_;refine xx ?_;refine Yaz _ _ h0 h1 h2 h3 ?_;refine xx ?_;exact ZO (ZP hk)
theorem Zwg (a b c d:Int)(hk:K (.bool (decide (a<c\/a=c/\b<d))) L h):Zb prog 346 [.agg #[.int .u64 a,.int .u64 b],.agg #[.int .u64 c,.int .u64 d]] L h K:=by
 refine ed func346 ?_;refine xx ?_;refine ZY fun b1 nb1 zb1=>?_;(try simp only[ZS]at nb1);refine xx ?_;refine ZY fun b2 nb2 zb2=>?_;(try simp only[ZS]at nb2);refine xx ?_;by_cases c1:a<c
 ·refine xx ?_;exact ZO (ZO (ZP zl))
 ·refine xx ?_;by_cases c2:a=c
  ·refine xx ?_;exact ZO (ZO (ZP zK))
  ·refine xx ?_;exact ZO (ZO (ZP zK))
theorem Zze (a b c d:Int):decide (a*b/18446744073709551616<c*d/18446744073709551616\/a*b/18446744073709551616=c*d/18446744073709551616/\a*b%18446744073709551616<c*d%18446744073709551616)=decide (a*b<c*d):=by
 generalize a*b=x
 generalize c*d=y
 rw[decide_eq_decide];omega
theorem Zcg (a b c d:Int)(ha:0<=a/\a<=18446744073709551615)(hb:0<=b/\b<=18446744073709551615)(hc:0<=c/\c<=18446744073709551615)(hd:0<=d/\d<=18446744073709551615)(hk:K (.bool (decide (a*b<c*d))) L h) :
  Zb prog 279 [.int .u64 a,.int .u64 b,.int .u64 c,.int .u64 d] L h K:=by
 refine ed func279 ?_;refine xx ?_;refine Zdj _ _ ha.1 ha.2 hb.1 hb.2 ?_;refine xx ?_;refine Zdj _ _ hc.1 hc.2 hd.1 hd.2 ?_;refine xx ?_;refine Zwg _ _ _ _ ?_;refine xx ?_;rw[<- Zze]at hk;exact ZP qA
theorem Yfh (p a:Int)(hp:0<=p/\p<=18446744073709551615)(ha:0<=a/\a<=18446744073709551615)(hk:K (.bool (decide (0<a)&&decide (2*a<3*p))) L h) :
  Zb prog 273 [.int .u64 p,.int .u64 a] L h K:=by
 refine ed func273 ?_;refine xx ?_;by_cases c:0<a
 ·refine xx ?_;refine Zcg _ _ _ _ qf ha qf hp ?_;refine xx ?_;exact ZP qC
 ·refine xx ?_;exact ZP qC
def IsCert (h:PH)(v:Value)(c:ZI):Prop :=
 ∃sv bv,v = .agg #[.int .i64 c.ep,.int .i64 c.mem,sv,bv]/\Ints h .u64 sv c.st/\Ints h .u8 bv c.bs /\ -9223372036854775808<=c.ep/\c.ep<=9223372036854775807 /\ -9223372036854775808<=c.mem/\c.mem<=9223372036854775807
theorem IsCert.up {h h':PH}(le:PH.le h h'){v:Value}{c:ZI}(hc:IsCert h v c):IsCert h' v c:=by
 obtain⟨s,b,e,h1,h2,h3⟩:=hc;exact⟨s,b,e,h1.up le,h2.up le,h3⟩
end Go.X
