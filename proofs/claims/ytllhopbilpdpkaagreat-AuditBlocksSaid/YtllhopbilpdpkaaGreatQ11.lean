/- Lemmas and contracts. Conditions: as each says. -/
import Derived.Test.YtllhopbilpdpkaaGreatQ10
set_option linter.unusedVariables false
set_option linter.unusedSimpArgs false
set_option maxHeartbeats 12800000
set_option maxRecDepth 20000
namespace Go.X
open Go.RowKit Go.Proofs Go.Bl Go.Proofs.Tryz
variable {L:Own} {h:PH} {K:PK}
theorem Zkw (m:Zc)(hk:K (.agg #[.int .u64 m.bal,.int .u64 m.eff,.int .u64 m.score,.int .i64 m.streak,.int .i64 m.owner,.int .i64 m.status]) L h):Zb prog 164 [.agg #[.int .u64 m.bal,.int .u64 m.eff,.int .u64 m.score,.int .i64 m.streak,.int .i64 m.owner,.int .i64 m.status]] L h K:=by
 refine ZS func164 rfl (rs:=[_]) rfl rfl ZX (by kernel_rfl) rfl rfl ?_;refine xx ?_;refine Z0 fun b1 nb1 zb1=>?_;(try simp only[ZT]at nb1);refine xx ?_;refine Z0 fun b2 nb2 zb2=>?_;(try simp only[ZT]at nb2);refine xx ?_;exact ZO (ZO (ZP hk))
theorem Ztl {l:List Zc}(v:Value)(hd0:Zh Ym 6 h v l)(hn:l.length≤100000)(hk:∀h' r,PH.le h h'→Zh Ym 6 h' r l→K r L h'):Zb prog 54 [v] L h K:=by
 obtain⟨a,c,rfl,hc,hl,_,hd⟩:=hd0.open;refine ZS func54 rfl (rs:=[_]) rfl rfl ZX (by kernel_rfl) rfl rfl ?_;refine xx ?_;refine Yu (γ:=Nat×Option (Nat×Nat)) (0,none) (fun s=>s.1≤l.length∧okO s.2 s.1∧apO s.2 L h) (fun s=>[(8,.int .i64 s.1),(7,.int .i64 l.length),(6,.slice a l.length c),(3,ovs s.2 s.1)])
  (fun s=>oent 124 6 s.2 ((l.take s.1).flatMap Ym) L) (fun _=>h) (fun s=>l.length-s.1) ?_ ?_ ?_ ?_
 ·exact⟨Nat.zero_le _,rfl,trivial⟩
 ·simp [Ent,List.lookup,Y3,ovs]
 ·exact Za.refl _ _
 rintro⟨k,o⟩ ⟨k1,k2,k3⟩;simp only at k1 k2 k3 ⊢;have hlt:(l.take k).length=k:=by simp [k1]
 by_cases c1:k<l.length
 ·have et:l.take (k+1)=l.take k++[gr ZQ l k]:=by rw[Z9 c1,List.take_succ_eq_append_getElem c1]
  simp -dsimp -implicitDefEqProofs (disch:=first|with_reducible assumption|omega) [go_sem,↓WQ ZQ (by decide) hd,Ym];refine Z0 fun b1 nb1 zb1=>?_;(try simp only[ZT]at nb1);simp -dsimp -implicitDefEqProofs (disch:=first|with_reducible assumption|omega) [go_sem,Ym];refine Zkw (gr ZQ l k) ?_;refine xx ?_;refine Z0 fun b2 nb2 zb2=>?_;(try simp only[ZT]at nb2);simp -dsimp -implicitDefEqProofs (disch:=first|with_reducible assumption|omega) [go_sem,Ym];refine Z3 (t:=40) (e:=124) (sz:=6) (bytes:=48) (by kernel_rfl) Ygq rfl rfl rfl rfl (by decide) [_,_] L o k ((l.take k).flatMap Ym) k2 (by rw[Z1 hd.len,hlt]) (Src.own List.mem_cons_self) (m:=1) (news:=Ym (gr ZQ l k)) rfl (by intro u hu;simp only[Ym,List.mem_cons,List.not_mem_nil,or_false]at hu;rcases hu with rfl|rfl|rfl|rfl|rfl|rfl<;>rfl) (by simp [maxLen];omega) (by omega) ?_;intro o' j1 j2 j3;refine xx ?_;refine⟨k+1,o',⟨by omega,j1,ZZ (ZZ j2)⟩,by omega,by simp [Ent,List.lookup],?_⟩;rw[et,List.flatMap_append,List.flatMap_cons,List.flatMap_nil,List.append_nil];exact(Za.tail _ _ _).trans (Za.tail _ _ _)
 ·have hkl:k=l.length:=by omega
  subst hkl;refine xx ?_;exact YR (n:=l.length) k2 (Z1 hd.len l) (by omega) k3 fun h' le sl=>ZP (hk h' _ le (Zh.pub hd.len sl))
theorem Ziy {l:List Zk}(v:Value)(hd0:Zh Ua 4 h v l)(hn:l.length≤100000)(hk:∀h' r,PH.le h h'→Zh Ua 4 h' r l→K r L h'):Zb prog 55 [v] L h K:=by
 obtain⟨a,c,rfl,hc,hl,_,hd⟩:=hd0.open;refine ZS func55 rfl (rs:=[_]) rfl rfl ZX (by kernel_rfl) rfl rfl ?_;refine xx ?_;refine Yu (γ:=Nat×Option (Nat×Nat)) (0,none) (fun s=>s.1≤l.length∧okO s.2 s.1∧apO s.2 L h) (fun s=>[(8,.int .i64 s.1),(7,.int .i64 l.length),(6,.slice a l.length c),(3,ovs s.2 s.1)])
  (fun s=>oent 233 4 s.2 ((l.take s.1).flatMap Ua) L) (fun _=>h) (fun s=>l.length-s.1) ?_ ?_ ?_ ?_
 ·exact⟨Nat.zero_le _,rfl,trivial⟩
 ·simp [Ent,List.lookup,Y3,ovs]
 ·exact Za.refl _ _
 rintro⟨k,o⟩ ⟨k1,k2,k3⟩;simp only at k1 k2 k3 ⊢;have hlt:(l.take k).length=k:=by simp [k1]
 by_cases c1:k<l.length
 ·have et:l.take (k+1)=l.take k++[gr Z4 l k]:=by rw[Z9 c1,List.take_succ_eq_append_getElem c1]
  simp -dsimp -implicitDefEqProofs (disch:=first|with_reducible assumption|omega) [go_sem,↓WQ Z4 (by decide) hd,Ua];refine Z0 fun b1 nb1 zb1=>?_;(try simp only[ZT]at nb1);simp -dsimp -implicitDefEqProofs (disch:=first|with_reducible assumption|omega) [go_sem,Ua];refine Z0 fun b2 nb2 zb2=>?_;(try simp only[ZT]at nb2);simp -dsimp -implicitDefEqProofs (disch:=first|with_reducible assumption|omega) [go_sem,Ua];refine Z3 (t:=41) (e:=233) (sz:=4) (bytes:=32) (by kernel_rfl) Zep rfl rfl rfl rfl (by decide) [_,_] L o k ((l.take k).flatMap Ua) k2 (by rw[Z1 hd.len,hlt]) (Src.own List.mem_cons_self) (m:=1) (news:=Ua (gr Z4 l k)) rfl (by intro u hu;simp only[Ua,List.mem_cons,List.not_mem_nil,or_false]at hu;rcases hu with rfl|rfl|rfl|rfl<;>rfl) (by simp [maxLen];omega) (by omega) ?_;intro o' j1 j2 j3;refine xx ?_;refine⟨k+1,o',⟨by omega,j1,ZZ (ZZ j2)⟩,by omega,by simp [Ent,List.lookup],?_⟩;rw[et,List.flatMap_append,List.flatMap_cons,List.flatMap_nil,List.append_nil];exact(Za.tail _ _ _).trans (Za.tail _ _ _)
 ·have hkl:k=l.length:=by omega
  subst hkl;refine xx ?_;exact YR (n:=l.length) k2 (Z1 hd.len l) (by omega) k3 fun h' le sl=>ZP (hk h' _ le (Zh.pub hd.len sl))
theorem Zjr {l:List Zi}(v:Value)(hd0:Zh YB 3 h v l)(hn:l.length≤100000)(hk:∀h' r,PH.le h h'→Zh YB 3 h' r l→K r L h'):Zb prog 56 [v] L h K:=by
 obtain⟨a,c,rfl,hc,hl,_,hd⟩:=hd0.open;refine ZS func56 rfl (rs:=[_]) rfl rfl ZX (by kernel_rfl) rfl rfl ?_;refine xx ?_;refine Yu (γ:=Nat×Option (Nat×Nat)) (0,none) (fun s=>s.1≤l.length∧okO s.2 s.1∧apO s.2 L h) (fun s=>[(8,.int .i64 s.1),(7,.int .i64 l.length),(6,.slice a l.length c),(3,ovs s.2 s.1)])
  (fun s=>oent 216 3 s.2 ((l.take s.1).flatMap YB) L) (fun _=>h) (fun s=>l.length-s.1) ?_ ?_ ?_ ?_
 ·exact⟨Nat.zero_le _,rfl,trivial⟩
 ·simp [Ent,List.lookup,Y3,ovs]
 ·exact Za.refl _ _
 rintro⟨k,o⟩ ⟨k1,k2,k3⟩;simp only at k1 k2 k3 ⊢;have hlt:(l.take k).length=k:=by simp [k1]
 by_cases c1:k<l.length
 ·have et:l.take (k+1)=l.take k++[gr ZV l k]:=by rw[Z9 c1,List.take_succ_eq_append_getElem c1]
  simp -dsimp -implicitDefEqProofs (disch:=first|with_reducible assumption|omega) [go_sem,↓WQ ZV (by decide) hd,YB];refine Z0 fun b1 nb1 zb1=>?_;(try simp only[ZT]at nb1);simp -dsimp -implicitDefEqProofs (disch:=first|with_reducible assumption|omega) [go_sem,YB];refine Z0 fun b2 nb2 zb2=>?_;(try simp only[ZT]at nb2);simp -dsimp -implicitDefEqProofs (disch:=first|with_reducible assumption|omega) [go_sem,YB];refine Z3 (t:=42) (e:=216) (sz:=3) (bytes:=24) (by kernel_rfl) Yfv rfl rfl rfl rfl (by decide) [_,_] L o k ((l.take k).flatMap YB) k2 (by rw[Z1 hd.len,hlt]) (Src.own List.mem_cons_self) (m:=1) (news:=YB (gr ZV l k)) rfl (by intro u hu;simp only[YB,List.mem_cons,List.not_mem_nil,or_false]at hu;rcases hu with rfl|rfl|rfl<;>rfl) (by simp [maxLen];omega) (by omega) ?_;intro o' j1 j2 j3;refine xx ?_;refine⟨k+1,o',⟨by omega,j1,ZZ (ZZ j2)⟩,by omega,by simp [Ent,List.lookup],?_⟩;rw[et,List.flatMap_append,List.flatMap_cons,List.flatMap_nil,List.append_nil];exact(Za.tail _ _ _).trans (Za.tail _ _ _)
 ·have hkl:k=l.length:=by omega
  subst hkl;refine xx ?_;exact YR (n:=l.length) k2 (Z1 hd.len l) (by omega) k3 fun h' le sl=>ZP (hk h' _ le (Zh.pub hd.len sl))
theorem Zkk {l:List QM}(v:Value)(hd0:Zh Wk 33 h v l)(hm:∀x∈l,Zs h x)(hn:l.length≤100000)(hk:∀h' r,PH.le h h'→Zh Wk 33 h' r l→K r L h'):Zb prog 57 [v] L h K:=by
 obtain⟨a,c,rfl,hc,hl,_,hd⟩:=hd0.open;refine ZS func57 rfl (rs:=[_]) rfl rfl ZX (by kernel_rfl) rfl rfl ?_;refine xx ?_;refine Yu (γ:=Nat×Option (Nat×Nat)) (0,none) (fun s=>s.1≤l.length∧okO s.2 s.1∧apO s.2 L h) (fun s=>[(8,.int .i64 s.1),(7,.int .i64 l.length),(6,.slice a l.length c),(3,ovs s.2 s.1)])
  (fun s=>oent 184 33 s.2 ((l.take s.1).flatMap Wk) L) (fun _=>h) (fun s=>l.length-s.1) ?_ ?_ ?_ ?_
 ·exact⟨Nat.zero_le _,rfl,trivial⟩
 ·simp [Ent,List.lookup,Y3,ovs]
 ·exact Za.refl _ _
 rintro⟨k,o⟩ ⟨k1,k2,k3⟩;simp only at k1 k2 k3 ⊢;have hlt:(l.take k).length=k:=by simp [k1]
 by_cases c1:k<l.length
 ·have et:l.take (k+1)=l.take k++[gr Z2 l k]:=by rw[Z9 c1,List.take_succ_eq_append_getElem c1]
  have hx:Zs h (gr Z2 l k):=by rw[Z9 c1];exact hm _ (List.getElem_mem c1)
  obtain⟨x1,y1,hv1,_⟩:=hx.y.open;obtain⟨x2,y2,hv2,_⟩:=hx.n.open;simp -dsimp -implicitDefEqProofs (disch:=first|with_reducible assumption|omega) [go_sem,↓WQ Z2 (by decide) hd,Wk];refine Z0 fun b1 nb1 zb1=>?_;(try simp only[ZT]at nb1);simp -dsimp -implicitDefEqProofs (disch:=first|with_reducible assumption|omega) [go_sem,Wk,hv1,hv2];refine Z0 fun b2 nb2 zb2=>?_;(try simp only[ZT]at nb2);simp -dsimp -implicitDefEqProofs (disch:=first|with_reducible assumption|omega) [go_sem,Wk,hv1,hv2];refine Z3 (t:=43) (e:=184) (sz:=33) (bytes:=296) (by kernel_rfl) Yhd rfl rfl rfl rfl (by decide) [_,_] L o k ((l.take k).flatMap Wk) k2 (by rw[Z1 hd.len,hlt]) (Src.own List.mem_cons_self) (m:=1) (news:=Wk (.slice x1 (gr Z2 l k).2.2.yes.length y1,.slice x2 (gr Z2 l k).2.2.no.length y2,(gr Z2 l k).2.2)) rfl (by intro u hu;simp only[Wk,List.mem_cons,List.cons_append,List.nil_append,List.not_mem_nil,or_false]at hu;rcases hu with rfl|rfl|rfl|rfl|rfl|rfl|rfl|rfl|rfl|rfl|rfl|rfl|rfl|rfl|rfl|rfl|rfl|rfl|rfl|rfl|rfl|rfl|rfl|rfl|rfl|rfl|rfl|rfl|rfl|rfl|rfl|rfl|rfl<;>rfl) (by simp [maxLen];omega) (by omega) ?_;intro o' j1 j2 j3;refine xx ?_;refine⟨k+1,o',⟨by omega,j1,ZZ (ZZ j2)⟩,by omega,by simp [Ent,List.lookup],?_⟩;rw[et,List.flatMap_append,List.flatMap_cons,List.flatMap_nil,List.append_nil,show gr Z2 l k=(.slice x1 (gr Z2 l k).2.2.yes.length y1,.slice x2 (gr Z2 l k).2.2.no.length y2,(gr Z2 l k).2.2) from Prod.ext hv1 (Prod.ext hv2 rfl)];exact(Za.tail _ _ _).trans (Za.tail _ _ _)
 ·have hkl:k=l.length:=by omega
  subst hkl;refine xx ?_;exact YR (n:=l.length) k2 (Z1 hd.len l) (by omega) k3 fun h' le sl=>ZP (hk h' _ le (Zh.pub hd.len sl))
end Go.X
