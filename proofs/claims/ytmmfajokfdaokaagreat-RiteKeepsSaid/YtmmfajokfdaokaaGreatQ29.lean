/- Lemmas and contracts. Conditions: as each says. -/
import Derived.Test.YtmmfajokfdaokaaGreatQ27
set_option linter.unusedVariables false
set_option linter.unusedSimpArgs false
set_option maxHeartbeats 12800000
set_option maxRecDepth 20000
namespace Go.X
open Go.RowKit Go.Proofs Go.Bl Go.Proofs.Tryz
variable {L:Own} {h:PH} {K:PK}
theorem Zxm {xs:List Int}(v:Value)(hx:Ints h .u64 v xs)(i:Nat)(hi:i<xs.length)(hk:K (.bool true) L h):Zb prog 351 [v,.int .i64 i] L h K:=by
 obtain⟨a,c,rfl,_,hl,_⟩:=hx.open;refine ZR func351 rfl (rs:=[_]) rfl rfl ZY (by kernel_rfl) rfl rfl ?_;refine xx ?_;exact ZO hk
theorem Yqv {xs:List Int}(v:Value)(hx:Ints h .u64 v xs)(i:Nat)(hi:i<xs.length)(hk:K (.tuple #[.int .u64 (at0 xs i),.int .i64 0]) L h):Zb prog 326 [v,.int .i64 i] L h K:=by
 have hx0:=hx;obtain⟨a,c,rfl,_,hl,_,hcs⟩:=hx.open;refine ZR func326 rfl (rs:=[_,_]) rfl rfl ZY (by kernel_rfl) rfl rfl ?_;refine xx ?_;refine Zxm _ hx0 i hi ?_;simp -dsimp -implicitDefEqProofs (disch:=first|with_reducible assumption|omega) [go_sem,idx hcs];exact ZO hk
theorem Zzb {xs:List Int}(v:Value)(hx:Ints h .u64 v xs)(hl:xs.length≤1000)(i:Nat)(hi:i<xs.length)(n:Int)(hn:0≤n∧n≤18446744073709551615)(hk:∀h' r,PH.le h h'→Ints h' .u64 r (xs.set i n)→K r L h'):Zb prog 327 [v,.int .i64 i,.int .u64 n] L h K:=by
 have hx0:=hx;have hxw:=hx.word;obtain⟨a,c,rfl,_,hl2,_,hcs⟩:=hx.open;refine ZR func327 rfl (rs:=[_]) rfl rfl ZY (by kernel_rfl) rfl rfl ?_;refine xx ?_;refine J5 (e:=22) (z:=.int .u64 0) (by kernel_rfl) U3 rfl rfl .i64 .i64 _ (by omega) (by simp;omega) (by omega) ?_;simp only[Int.toNat_natCast];refine Z6 fun b1 nb1 zb1=>?_;(try simp only[ZU]at nb1);refine xx ?_;refine Yig (e:=22) (sz:=1) (by kernel_rfl) U3 rfl (Src.known hx0.1) (by simp) (Nat.le_refl _) ?_;have hw:wr (List.replicate xs.length (Value.int .u64 0)) 0 (xs.map (Value.int .u64))=xs.map (Value.int .u64):=by
  rw[J9 _ _ _ (by simp)];simp
 simp -dsimp -implicitDefEqProofs (disch:=first|with_reducible assumption|omega) [go_sem,hw,WQ];refine⟨by omega,?_⟩;rw[← List.map_set]
 have:=YE (K:=K) (L:=L) (v:=.slice (some ⟨b1,0,none⟩) xs.length xs.length) (e:=22) (sz:=1) (o:=some (b1,xs.length)) (n:=xs.length) (xs:=(xs.set i n).map (.int .u64)) (h:=h) (L0:=L) ⟨Nat.le_refl _,by simp [maxLen];omega⟩ (by simp) (by omega) ⟨nb1,zb1⟩ fun h' le sl=>ZO (hk h' _ le ⟨by rw[List.length_set];exact sl,fun z hz=>by
  rw[show IntKind.u64.min=0 by decide,show IntKind.u64.max=18446744073709551615 by decide];rcases List.mem_or_eq_of_mem_set hz with hz|rfl
  ·have:=hx0.2 z hz
   rwa [show IntKind.u64.min=0 by decide,show IntKind.u64.max=18446744073709551615 by decide]at this
  ·exact hn⟩)
 simpa only[oent,Nat.mul_one] using this
theorem Yre {xs:List Int}(v:Value)(hx:Ints h .u64 v xs)(hl:xs.length≤1000)(i:Nat)(hi:i<xs.length)(n:Int)(hn:0≤n)(hs:at0 xs i+n≤4611686018427387904)(hk:∀h' r,PH.le h h'→Ints h' .u64 r (xs.set i (at0 xs i+n))→K (.tuple #[r,.int .i64 0]) L h'):Zb prog 257 [v,.int .i64 i,.int .u64 n] L h K:=by
 have hx0:=hx;have hw:=hx.word i;obtain⟨a,c,rfl,_,hl2,_⟩:=hx.open;refine ZR func257 rfl (rs:=[_,_]) rfl rfl ZY (by kernel_rfl) rfl rfl ?_;refine xx ?_;refine Yqv _ hx0 i hi ?_;refine xx ?_;refine WO (at0 xs i) n hw (by omega) ?_;rw[YR (by omega)];refine xx ?_;refine Zzb _ hx0 hl i hi _ (by omega) fun h1 r le i1=>?_;obtain⟨ra,rc,rfl,_⟩:=i1.open;have h2:=hk h1 _ le i1;rw[List.length_set]at h2;refine xx ?_;exact ZO h2
theorem Zts (p:Ze)(ok:Zj p)(hr:Ym p=true)(b:Int)(hb:0≤b∧b≤18446744073709551615)(hk:K (.tuple #[.int .u64 (min b p.cap),.int .u64 (b-min b p.cap)]) L h):Zb prog 163 [VQ p,.int .u64 b] L h K:=by
 have hc:=ok.w p.cap (by simp [Yw]);refine ZR func163 rfl (rs:=[_,_]) rfl rfl ZY (by kernel_rfl) rfl rfl ?_;refine xx ?_;refine Z6 fun b1 nb1 zb1=>?_;(try simp only[ZU]at nb1);refine xx ?_;refine JZ p ok ?_;rw[hr];refine xx ?_;refine Z6 fun b2 nb2 zb2=>?_;(try simp only[ZU]at nb2);refine xx ?_;have take:∀ {K':PK} {L':Own},K' (.tuple #[.int .u64 (min b p.cap),.int .u64 (b-min b p.cap)]) L' h→Zb prog 255 [.int .u64 b,.int .u64 p.cap] L' h K':=fun {K' L'} hK=>by
  refine ZR func255 rfl (rs:=[_,_]) rfl rfl ZY (by kernel_rfl) rfl rfl ?_;refine xx ?_;exact ZO hK
 refine take ?_;refine xx ?_;exact ZP (ZP (ZO hk))
theorem Ycg (p:Ze)(ok:Zj p)(hr:Ym p=true)(e b:Int)(he:0≤e∧e≤18446744073709551615)(hb:0≤b∧b≤18446744073709551615)(hk:K (.int .u64 (Zeq p e b)) L h):Zb prog 166 [VQ p,.int .u64 e,.int .u64 b] L h K:=by
 refine ZR func166 rfl (rs:=[_]) rfl rfl ZY (by kernel_rfl) rfl rfl ?_;refine xx ?_;refine Z6 fun b1 nb1 zb1=>?_;(try simp only[ZU]at nb1);refine xx ?_;refine JZ p ok ?_;rw[hr];refine xx ?_;refine Z6 fun b2 nb2 zb2=>?_;(try simp only[ZU]at nb2);refine xx ?_;refine Zrc p ok (Gn hr) e b he hb ?_;refine xx ?_;exact ZP (ZP (ZO hk))
theorem Yxq {l:List Zc}{k:Nat}(hk:k<l.length){i:Nat}(hi:i<6){u:Value}{a a':Zc}(ha:YK a'=(YK a).set i u):((l.set k a).flatMap YK).set (k*6+i) u=(l.set k a').flatMap YK:=by
 rw[Wm Yb ZS (l.set k a) (by rw[List.length_set];exact hk) hi (a':=a') (by rw[Yl (by rw[List.length_set];exact hk),List.getElem_set_self];exact ha),List.set_set]
theorem fset4 {l:List Zc}{k:Nat}(hk:k<l.length)(a b:Zc)(ho:b.owner=a.owner)(hs:b.status=a.status) :
  (((((l.set k a).flatMap YK).set (k*6) (.int .u64 b.bal)).set (k*6+1) (.int .u64 b.eff)).set (k*6+2) (.int .u64 b.score)).set (k*6+3) (.int .i64 b.streak)=(l.set k b).flatMap YK:=by
 have h0:((l.set k a).flatMap YK).set (k*6) (.int .u64 b.bal)=(l.set k { a with bal:=b.bal }).flatMap YK:=Yxq hk (i:=0) (by decide) rfl;have h1:((l.set k { a with bal:=b.bal }).flatMap YK).set (k*6+1) (.int .u64 b.eff)=(l.set k { a with bal:=b.bal,eff:=b.eff }).flatMap YK:=Yxq hk (by decide) rfl;have h2:((l.set k { a with bal:=b.bal,eff:=b.eff }).flatMap YK).set (k*6+2) (.int .u64 b.score)=(l.set k { a with bal:=b.bal,eff:=b.eff,score:=b.score }).flatMap YK:=Yxq hk (by decide) rfl;have h3:((l.set k { a with bal:=b.bal,eff:=b.eff,score:=b.score }).flatMap YK).set (k*6+3) (.int .i64 b.streak)=(l.set k { a with bal:=b.bal,eff:=b.eff,score:=b.score,streak:=b.streak }).flatMap YK:=Yxq hk (by decide) rfl;rw[h0,h1,h2,h3];have:({ a with bal:=b.bal,eff:=b.eff,score:=b.score,streak:=b.streak }:Zc)=b:=by
  cases a;cases b;simp only at ho hs;subst ho;subst hs;rfl
 rw[this]
def UO (q:Ze)(m:Zc):Zc:=Zba q { m with bal:=min m.bal q.cap }
def WR (q:Ze)(m:Zc):Zc:={ m with eff:=if UG q (Zeq q m.eff m.bal) m.bal then Zeq q m.eff m.bal else WW q m.bal }
abbrev setP (u:SV)(p:Value):SV:=⟨p,u.m,u.e,u.x,u.o,u.d,u.t,u.k,u.r⟩
end Go.X
