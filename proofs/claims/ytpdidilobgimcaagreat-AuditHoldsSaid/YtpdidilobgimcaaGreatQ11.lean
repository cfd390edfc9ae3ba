/- Lemmas and contracts. Conditions: as each says. -/
import Derived.Test.YtpdidilobgimcaaGreatQ10
set_option linter.unusedVariables false
set_option linter.unusedSimpArgs false
set_option maxHeartbeats 12800000
set_option maxRecDepth 20000
namespace Go.X
open Go.RowKit Go.Proofs Go.Bl Go.Proofs.Tryz
variable {L:Own} {h:PH} {K:PK}
theorem Zls (m:Zc)(hk:K (.agg #[.int .u64 m.bal,.int .u64 m.eff,.int .u64 m.score,.int .i64 m.streak,.int .i64 m.owner,.int .i64 m.status]) L h):Zb prog 186 [.agg #[.int .u64 m.bal,.int .u64 m.eff,.int .u64 m.score,.int .i64 m.streak,.int .i64 m.owner,.int .i64 m.status]] L h K:=by
 refine ZS func186 rfl (rs:=[_]) rfl rfl ZY (by kernel_rfl) rfl rfl ?_;refine xx ?_;refine Z0 fun b1 nb1 zb1=>?_;(try simp only[ZT]at nb1);refine xx ?_;refine Z0 fun b2 nb2 zb2=>?_;(try simp only[ZT]at nb2);refine xx ?_;exact ZO (ZO (ZP hk))
theorem Zss {l:List Zc}(v:Value)(hd0:Zg Ym 6 h v l)(hn:l.length≤100000)(hk:∀h' r,PH.le h h'→Zg Ym 6 h' r l→K r L h'):Zb prog 75 [v] L h K:=by
 obtain⟨a,c,rfl,hc,hl,_,hd⟩:=hd0.open;refine ZS func75 rfl (rs:=[_]) rfl rfl ZY (by kernel_rfl) rfl rfl ?_;refine xx ?_;refine Yq (γ:=Nat×Option (Nat×Nat)) (0,none) (fun s=>s.1≤l.length∧okO s.2 s.1∧apO s.2 L h) (fun s=>[(8,.int .i64 s.1),(7,.int .i64 l.length),(6,.slice a l.length c),(3,ovs s.2 s.1)])
  (fun s=>oent 137 6 s.2 ((l.take s.1).flatMap Ym) L) (fun _=>h) (fun s=>l.length-s.1) ?_ ?_ ?_ ?_
 ·exact⟨Nat.zero_le _,rfl,trivial⟩
 ·simp [Ent,List.lookup,Y5,ovs]
 ·exact Za.refl _ _
 rintro⟨k,o⟩ ⟨k1,k2,k3⟩;simp only at k1 k2 k3 ⊢;have hlt:(l.take k).length=k:=by simp [k1]
 by_cases c1:k<l.length
 ·have et:l.take (k+1)=l.take k++[gr ZR l k]:=by rw[Z7 c1,List.take_succ_eq_append_getElem c1]
  simp -dsimp -implicitDefEqProofs (disch:=first|with_reducible assumption|omega) [go_sem,↓WV ZR (by decide) hd,Ym];refine Z0 fun b1 nb1 zb1=>?_;(try simp only[ZT]at nb1);simp -dsimp -implicitDefEqProofs (disch:=first|with_reducible assumption|omega) [go_sem,Ym];refine Zls (gr ZR l k) ?_;refine xx ?_;refine Z0 fun b2 nb2 zb2=>?_;(try simp only[ZT]at nb2);simp -dsimp -implicitDefEqProofs (disch:=first|with_reducible assumption|omega) [go_sem,Ym];refine Z3 (t:=45) (e:=137) (sz:=6) (bytes:=48) (by kernel_rfl) Ygi rfl rfl rfl rfl (by decide) [_,_] L o k ((l.take k).flatMap Ym) k2 (by rw[Z1 hd.len,hlt]) (Src.own List.mem_cons_self) (m:=1) (news:=Ym (gr ZR l k)) rfl (by intro u hu;simp only[Ym,List.mem_cons,List.not_mem_nil,or_false]at hu;rcases hu with rfl|rfl|rfl|rfl|rfl|rfl<;>rfl) (by simp [maxLen];omega) (by omega) ?_;intro o' j1 j2 j3;refine xx ?_;refine⟨k+1,o',⟨by omega,j1,ZZ (ZZ j2)⟩,by omega,by simp [Ent,List.lookup],?_⟩;rw[et,List.flatMap_append,List.flatMap_cons,List.flatMap_nil,List.append_nil];exact(Za.tail _ _ _).trans (Za.tail _ _ _)
 ·have hkl:k=l.length:=by omega
  subst hkl;refine xx ?_;exact YR (n:=l.length) k2 (Z1 hd.len l) (by omega) k3 fun h' le sl=>ZP (hk h' _ le (Zg.pub hd.len sl))
theorem Zjv {l:List Zk}(v:Value)(hd0:Zg V1 4 h v l)(hn:l.length≤100000)(hk:∀h' r,PH.le h h'→Zg V1 4 h' r l→K r L h'):Zb prog 76 [v] L h K:=by
 obtain⟨a,c,rfl,hc,hl,_,hd⟩:=hd0.open;refine ZS func76 rfl (rs:=[_]) rfl rfl ZY (by kernel_rfl) rfl rfl ?_;refine xx ?_;refine Yq (γ:=Nat×Option (Nat×Nat)) (0,none) (fun s=>s.1≤l.length∧okO s.2 s.1∧apO s.2 L h) (fun s=>[(8,.int .i64 s.1),(7,.int .i64 l.length),(6,.slice a l.length c),(3,ovs s.2 s.1)])
  (fun s=>oent 249 4 s.2 ((l.take s.1).flatMap V1) L) (fun _=>h) (fun s=>l.length-s.1) ?_ ?_ ?_ ?_
 ·exact⟨Nat.zero_le _,rfl,trivial⟩
 ·simp [Ent,List.lookup,Y5,ovs]
 ·exact Za.refl _ _
 rintro⟨k,o⟩ ⟨k1,k2,k3⟩;simp only at k1 k2 k3 ⊢;have hlt:(l.take k).length=k:=by simp [k1]
 by_cases c1:k<l.length
 ·have et:l.take (k+1)=l.take k++[gr Z4 l k]:=by rw[Z7 c1,List.take_succ_eq_append_getElem c1]
  simp -dsimp -implicitDefEqProofs (disch:=first|with_reducible assumption|omega) [go_sem,↓WV Z4 (by decide) hd,V1];refine Z0 fun b1 nb1 zb1=>?_;(try simp only[ZT]at nb1);simp -dsimp -implicitDefEqProofs (disch:=first|with_reducible assumption|omega) [go_sem,V1];refine Z0 fun b2 nb2 zb2=>?_;(try simp only[ZT]at nb2);simp -dsimp -implicitDefEqProofs (disch:=first|with_reducible assumption|omega) [go_sem,V1];refine Z3 (t:=46) (e:=249) (sz:=4) (bytes:=32) (by kernel_rfl) Zeb rfl rfl rfl rfl (by decide) [_,_] L o k ((l.take k).flatMap V1) k2 (by rw[Z1 hd.len,hlt]) (Src.own List.mem_cons_self) (m:=1) (news:=V1 (gr Z4 l k)) rfl (by intro u hu;simp only[V1,List.mem_cons,List.not_mem_nil,or_false]at hu;rcases hu with rfl|rfl|rfl|rfl<;>rfl) (by simp [maxLen];omega) (by omega) ?_;intro o' j1 j2 j3;refine xx ?_;refine⟨k+1,o',⟨by omega,j1,ZZ (ZZ j2)⟩,by omega,by simp [Ent,List.lookup],?_⟩;rw[et,List.flatMap_append,List.flatMap_cons,List.flatMap_nil,List.append_nil];exact(Za.tail _ _ _).trans (Za.tail _ _ _)
 ·have hkl:k=l.length:=by omega
  subst hkl;refine xx ?_;exact YR (n:=l.length) k2 (Z1 hd.len l) (by omega) k3 fun h' le sl=>ZP (hk h' _ le (Zg.pub hd.len sl))
theorem Zkc {l:List Zi}(v:Value)(hd0:Zg YA 3 h v l)(hn:l.length≤100000)(hk:∀h' r,PH.le h h'→Zg YA 3 h' r l→K r L h'):Zb prog 77 [v] L h K:=by
 obtain⟨a,c,rfl,hc,hl,_,hd⟩:=hd0.open;refine ZS func77 rfl (rs:=[_]) rfl rfl ZY (by kernel_rfl) rfl rfl ?_;refine xx ?_;refine Yq (γ:=Nat×Option (Nat×Nat)) (0,none) (fun s=>s.1≤l.length∧okO s.2 s.1∧apO s.2 L h) (fun s=>[(8,.int .i64 s.1),(7,.int .i64 l.length),(6,.slice a l.length c),(3,ovs s.2 s.1)])
  (fun s=>oent 250 3 s.2 ((l.take s.1).flatMap YA) L) (fun _=>h) (fun s=>l.length-s.1) ?_ ?_ ?_ ?_
 ·exact⟨Nat.zero_le _,rfl,trivial⟩
 ·simp [Ent,List.lookup,Y5,ovs]
 ·exact Za.refl _ _
 rintro⟨k,o⟩ ⟨k1,k2,k3⟩;simp only at k1 k2 k3 ⊢;have hlt:(l.take k).length=k:=by simp [k1]
 by_cases c1:k<l.length
 ·have et:l.take (k+1)=l.take k++[gr ZW l k]:=by rw[Z7 c1,List.take_succ_eq_append_getElem c1]
  simp -dsimp -implicitDefEqProofs (disch:=first|with_reducible assumption|omega) [go_sem,↓WV ZW (by decide) hd,YA];refine Z0 fun b1 nb1 zb1=>?_;(try simp only[ZT]at nb1);simp -dsimp -implicitDefEqProofs (disch:=first|with_reducible assumption|omega) [go_sem,YA];refine Z0 fun b2 nb2 zb2=>?_;(try simp only[ZT]at nb2);simp -dsimp -implicitDefEqProofs (disch:=first|with_reducible assumption|omega) [go_sem,YA];refine Z3 (t:=47) (e:=250) (sz:=3) (bytes:=24) (by kernel_rfl) Yhp rfl rfl rfl rfl (by decide) [_,_] L o k ((l.take k).flatMap YA) k2 (by rw[Z1 hd.len,hlt]) (Src.own List.mem_cons_self) (m:=1) (news:=YA (gr ZW l k)) rfl (by intro u hu;simp only[YA,List.mem_cons,List.not_mem_nil,or_false]at hu;rcases hu with rfl|rfl|rfl<;>rfl) (by simp [maxLen];omega) (by omega) ?_;intro o' j1 j2 j3;refine xx ?_;refine⟨k+1,o',⟨by omega,j1,ZZ (ZZ j2)⟩,by omega,by simp [Ent,List.lookup],?_⟩;rw[et,List.flatMap_append,List.flatMap_cons,List.flatMap_nil,List.append_nil];exact(Za.tail _ _ _).trans (Za.tail _ _ _)
 ·have hkl:k=l.length:=by omega
  subst hkl;refine xx ?_;exact YR (n:=l.length) k2 (Z1 hd.len l) (by omega) k3 fun h' le sl=>ZP (hk h' _ le (Zg.pub hd.len sl))
theorem Zho {l:List QM}(v:Value)(hd0:Zg Wb 33 h v l)(hm:∀x∈l,Zs h x)(hn:l.length≤100000)(hk:∀h' r,PH.le h h'→Zg Wb 33 h' r l→K r L h'):Zb prog 78 [v] L h K:=by
 obtain⟨a,c,rfl,hc,hl,_,hd⟩:=hd0.open;refine ZS func78 rfl (rs:=[_]) rfl rfl ZY (by kernel_rfl) rfl rfl ?_;refine xx ?_;refine Yq (γ:=Nat×Option (Nat×Nat)) (0,none) (fun s=>s.1≤l.length∧okO s.2 s.1∧apO s.2 L h) (fun s=>[(8,.int .i64 s.1),(7,.int .i64 l.length),(6,.slice a l.length c),(3,ovs s.2 s.1)])
  (fun s=>oent 175 33 s.2 ((l.take s.1).flatMap Wb) L) (fun _=>h) (fun s=>l.length-s.1) ?_ ?_ ?_ ?_
 ·exact⟨Nat.zero_le _,rfl,trivial⟩
 ·simp [Ent,List.lookup,Y5,ovs]
 ·exact Za.refl _ _
 rintro⟨k,o⟩ ⟨k1,k2,k3⟩;simp only at k1 k2 k3 ⊢;have hlt:(l.take k).length=k:=by simp [k1]
 by_cases c1:k<l.length
 ·have et:l.take (k+1)=l.take k++[gr Z2 l k]:=by rw[Z7 c1,List.take_succ_eq_append_getElem c1]
  have hx:Zs h (gr Z2 l k):=by rw[Z7 c1];exact hm _ (List.getElem_mem c1)
  obtain⟨x1,y1,hv1,_⟩:=hx.y.open;obtain⟨x2,y2,hv2,_⟩:=hx.n.open;simp -dsimp -implicitDefEqProofs (disch:=first|with_reducible assumption|omega) [go_sem,↓WV Z2 (by decide) hd,Wb];refine Z0 fun b1 nb1 zb1=>?_;(try simp only[ZT]at nb1);simp -dsimp -implicitDefEqProofs (disch:=first|with_reducible assumption|omega) [go_sem,Wb,hv1,hv2];refine Z0 fun b2 nb2 zb2=>?_;(try simp only[ZT]at nb2);simp -dsimp -implicitDefEqProofs (disch:=first|with_reducible assumption|omega) [go_sem,Wb,hv1,hv2];refine Z3 (t:=48) (e:=175) (sz:=33) (bytes:=296) (by kernel_rfl) Yfw rfl rfl rfl rfl (by decide) [_,_] L o k ((l.take k).flatMap Wb) k2 (by rw[Z1 hd.len,hlt]) (Src.own List.mem_cons_self) (m:=1) (news:=Wb (.slice x1 (gr Z2 l k).2.2.yes.length y1,.slice x2 (gr Z2 l k).2.2.no.length y2,(gr Z2 l k).2.2)) rfl (by intro u hu;simp only[Wb,List.mem_cons,List.cons_append,List.nil_append,List.not_mem_nil,or_false]at hu;rcases hu with rfl|rfl|rfl|rfl|rfl|rfl|rfl|rfl|rfl|rfl|rfl|rfl|rfl|rfl|rfl|rfl|rfl|rfl|rfl|rfl|rfl|rfl|rfl|rfl|rfl|rfl|rfl|rfl|rfl|rfl|rfl|rfl|rfl<;>rfl) (by simp [maxLen];omega) (by omega) ?_;intro o' j1 j2 j3;refine xx ?_;refine⟨k+1,o',⟨by omega,j1,ZZ (ZZ j2)⟩,by omega,by simp [Ent,List.lookup],?_⟩;rw[et,List.flatMap_append,List.flatMap_cons,List.flatMap_nil,List.append_nil,show gr Z2 l k=(.slice x1 (gr Z2 l k).2.2.yes.length y1,.slice x2 (gr Z2 l k).2.2.no.length y2,(gr Z2 l k).2.2) from Prod.ext hv1 (Prod.ext hv2 rfl)];exact(Za.tail _ _ _).trans (Za.tail _ _ _)
 ·have hkl:k=l.length:=by omega
  subst hkl;refine xx ?_;exact YR (n:=l.length) k2 (Z1 hd.len l) (by omega) k3 fun h' le sl=>ZP (hk h' _ le (Zg.pub hd.len sl))
end Go.X
