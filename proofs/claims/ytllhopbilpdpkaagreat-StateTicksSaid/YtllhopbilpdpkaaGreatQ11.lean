/- Lemmas and contracts. Conditions: as each says. -/
import Derived.Test.YtllhopbilpdpkaaGreatQ10
set_option linter.unusedVariables false
set_option linter.unusedSimpArgs false
set_option maxHeartbeats 12800000
set_option maxRecDepth 20000
namespace Go.X
open Go.RowKit Go.Proofs Go.Bl Go.Proofs.Tryz
variable {L:Own} {h:PH} {K:PK}
theorem Zmc (m:Zc)(hk:K (.agg #[.int .u64 m.bal,.int .u64 m.eff,.int .u64 m.score,.int .i64 m.ak,.int .i64 m.owner,.int .i64 m.status]) L h):Zb prog 164 [.agg #[.int .u64 m.bal,.int .u64 m.eff,.int .u64 m.score,.int .i64 m.ak,.int .i64 m.owner,.int .i64 m.status]] L h K:=by
 refine ed func164 ?_;refine xx ?_;refine ZY fun b1 nb1 zb1=>?_;(try simp only[ZS]at nb1);refine xx ?_;refine ZY fun b2 nb2 zb2=>?_;(try simp only[ZS]at nb2);refine xx ?_;exact ZO (ZO (ZP hk))
theorem Zsf {l:List Zc}(v:Value)(hd0:Zd YD 6 h v l)(hn:l.length<=100000)(hk:∀h' r,PH.le h h'->Zd YD 6 h' r l->K r L h'):Zb prog 54 [v] L h K:=by
 obtain⟨a,c,rfl,hc,hl,_,hd⟩:=hd0.open;refine ed func54 ?_;refine xx ?_;refine Yi (γ:=Nat×Option (Nat×Nat)) (0,none) (fun s=>s.1<=l.length/\okO s.2 s.1/\apO s.2 L h) (fun s=>[(8,.int .i64 s.1),(7,.int .i64 l.length),(6,.slice a l.length c),(3,ovs s.2 s.1)])
  (fun s=>oent 124 6 s.2 ((l.take s.1).flatMap YD) L) (fun _=>h) (fun s=>l.length-s.1) ?_ ?_ ?_ ?_
 ·exact⟨Nat.zero_le _,rfl,trivial⟩
 ·simp [Ent,List.lookup,YT,ovs]
 ·exact Za.refl _ _
 rintro⟨k,o⟩ ⟨k1,k2,k3⟩;simp only at k1 k2 k3 ⊢;have hlt:(l.take k).length=k:=by simp [k1]
 by_cases c1:k<l.length
 ·have et:l.take (k+1)=l.take k++[gr ZQ l k]:=qQ;refine xh ?_;refine ZY fun b1 nb1 zb1=>?_;(try simp only[ZS]at nb1);refine xm ?_;refine Zmc (gr ZQ l k) ?_;refine xx ?_;refine ZY fun b2 nb2 zb2=>?_;(try simp only[ZS]at nb2);refine xm ?_;refine ZZ (t:=40) (e:=124) (sz:=6) (bytes:=48) qg Zpr rfl rfl rfl rfl qh [_,_] L o k ((l.take k).flatMap YD) k2 zY (Src.own List.mem_cons_self) (m:=1) (news:=YD (gr ZQ l k)) rfl (by intro u hu;simp only[YD,List.mem_cons,List.not_mem_nil,or_false]at hu;rcases hu with rfl|rfl|rfl|rfl|rfl|rfl<;>rfl) qm qf ?_;intro o' j1 j2 j3;refine xx ?_;refine⟨k+1,o',⟨qf,j1,ZV (ZV j2)⟩,qf,qi,?_⟩;rw[et,List.flatMap_append,List.flatMap_cons,List.flatMap_nil,List.append_nil];exact(Za.tail _ _ _).trans (Za.tail _ _ _)
 ·have hkl:k=l.length:=qf;subst hkl;refine xx ?_;exact Yv (n:=l.length) k2 (Z1 hd.len l) qf k3 fun h' le sl=>ZP (hk h' _ le (Zd.pub hd.len sl))
theorem Zin {l:List Zk}(v:Value)(hd0:Zd UK 4 h v l)(hn:l.length<=100000)(hk:∀h' r,PH.le h h'->Zd UK 4 h' r l->K r L h'):Zb prog 55 [v] L h K:=by
 obtain⟨a,c,rfl,hc,hl,_,hd⟩:=hd0.open;refine ed func55 ?_;refine xx ?_;refine Yi (γ:=Nat×Option (Nat×Nat)) (0,none) (fun s=>s.1<=l.length/\okO s.2 s.1/\apO s.2 L h) (fun s=>[(8,.int .i64 s.1),(7,.int .i64 l.length),(6,.slice a l.length c),(3,ovs s.2 s.1)])
  (fun s=>oent 233 4 s.2 ((l.take s.1).flatMap UK) L) (fun _=>h) (fun s=>l.length-s.1) ?_ ?_ ?_ ?_
 ·exact⟨Nat.zero_le _,rfl,trivial⟩
 ·simp [Ent,List.lookup,YT,ovs]
 ·exact Za.refl _ _
 rintro⟨k,o⟩ ⟨k1,k2,k3⟩;simp only at k1 k2 k3 ⊢;have hlt:(l.take k).length=k:=by simp [k1]
 by_cases c1:k<l.length
 ·have et:l.take (k+1)=l.take k++[gr Yg l k]:=qQ;refine xn ?_;refine ZY fun b1 nb1 zb1=>?_;(try simp only[ZS]at nb1);refine xq ?_;refine ZY fun b2 nb2 zb2=>?_;(try simp only[ZS]at nb2);refine xq ?_;refine ZZ (t:=41) (e:=233) (sz:=4) (bytes:=32) qg Zfa rfl rfl rfl rfl qh [_,_] L o k ((l.take k).flatMap UK) k2 zY (Src.own List.mem_cons_self) (m:=1) (news:=UK (gr Yg l k)) rfl (by intro u hu;simp only[UK,List.mem_cons,List.not_mem_nil,or_false]at hu;rcases hu with rfl|rfl|rfl|rfl<;>rfl) qm qf ?_;intro o' j1 j2 j3;refine xx ?_;refine⟨k+1,o',⟨qf,j1,ZV (ZV j2)⟩,qf,qi,?_⟩;rw[et,List.flatMap_append,List.flatMap_cons,List.flatMap_nil,List.append_nil];exact(Za.tail _ _ _).trans (Za.tail _ _ _)
 ·have hkl:k=l.length:=qf;subst hkl;refine xx ?_;exact Yv (n:=l.length) k2 (Z1 hd.len l) qf k3 fun h' le sl=>ZP (hk h' _ le (Zd.pub hd.len sl))
theorem Zld {l:List Zh}(v:Value)(hd0:Zd Yh 3 h v l)(hn:l.length<=100000)(hk:∀h' r,PH.le h h'->Zd Yh 3 h' r l->K r L h'):Zb prog 56 [v] L h K:=by
 obtain⟨a,c,rfl,hc,hl,_,hd⟩:=hd0.open;refine ed func56 ?_;refine xx ?_;refine Yi (γ:=Nat×Option (Nat×Nat)) (0,none) (fun s=>s.1<=l.length/\okO s.2 s.1/\apO s.2 L h) (fun s=>[(8,.int .i64 s.1),(7,.int .i64 l.length),(6,.slice a l.length c),(3,ovs s.2 s.1)])
  (fun s=>oent 216 3 s.2 ((l.take s.1).flatMap Yh) L) (fun _=>h) (fun s=>l.length-s.1) ?_ ?_ ?_ ?_
 ·exact⟨Nat.zero_le _,rfl,trivial⟩
 ·simp [Ent,List.lookup,YT,ovs]
 ·exact Za.refl _ _
 rintro⟨k,o⟩ ⟨k1,k2,k3⟩;simp only at k1 k2 k3 ⊢;have hlt:(l.take k).length=k:=by simp [k1]
 by_cases c1:k<l.length
 ·have et:l.take (k+1)=l.take k++[gr ZT l k]:=qQ;refine xu ?_;refine ZY fun b1 nb1 zb1=>?_;(try simp only[ZS]at nb1);refine xw ?_;refine ZY fun b2 nb2 zb2=>?_;(try simp only[ZS]at nb2);refine xw ?_;refine ZZ (t:=42) (e:=216) (sz:=3) (bytes:=24) qg Zcn rfl rfl rfl rfl qh [_,_] L o k ((l.take k).flatMap Yh) k2 zY (Src.own List.mem_cons_self) (m:=1) (news:=Yh (gr ZT l k)) rfl (by intro u hu;simp only[Yh,List.mem_cons,List.not_mem_nil,or_false]at hu;rcases hu with rfl|rfl|rfl<;>rfl) qm qf ?_;intro o' j1 j2 j3;refine xx ?_;refine⟨k+1,o',⟨qf,j1,ZV (ZV j2)⟩,qf,qi,?_⟩;rw[et,List.flatMap_append,List.flatMap_cons,List.flatMap_nil,List.append_nil];exact(Za.tail _ _ _).trans (Za.tail _ _ _)
 ·have hkl:k=l.length:=qf;subst hkl;refine xx ?_;exact Yv (n:=l.length) k2 (Z1 hd.len l) qf k3 fun h' le sl=>ZP (hk h' _ le (Zd.pub hd.len sl))
theorem Zkp {l:List QM}(v:Value)(hd0:Zd YQ 33 h v l)(hm:∀x∈l,Zr h x)(hn:l.length<=100000)(hk:∀h' r,PH.le h h'->Zd YQ 33 h' r l->K r L h'):Zb prog 57 [v] L h K:=by
 obtain⟨a,c,rfl,hc,hl,_,hd⟩:=hd0.open;refine ed func57 ?_;refine xx ?_;refine Yi (γ:=Nat×Option (Nat×Nat)) (0,none) (fun s=>s.1<=l.length/\okO s.2 s.1/\apO s.2 L h) (fun s=>[(8,.int .i64 s.1),(7,.int .i64 l.length),(6,.slice a l.length c),(3,ovs s.2 s.1)])
  (fun s=>oent 184 33 s.2 ((l.take s.1).flatMap YQ) L) (fun _=>h) (fun s=>l.length-s.1) ?_ ?_ ?_ ?_
 ·exact⟨Nat.zero_le _,rfl,trivial⟩
 ·simp [Ent,List.lookup,YT,ovs]
 ·exact Za.refl _ _
 rintro⟨k,o⟩ ⟨k1,k2,k3⟩;simp only at k1 k2 k3 ⊢;have hlt:(l.take k).length=k:=by simp [k1]
 by_cases c1:k<l.length
 ·have et:l.take (k+1)=l.take k++[gr Z0 l k]:=qQ;have hx:Zr h (gr Z0 l k):=by rw[Ye c1];exact hm _ (List.getElem_mem c1)
  obtain⟨x1,y1,hv1,_⟩:=hx.y.open;obtain⟨x2,y2,hv2,_⟩:=hx.n.open;refine xy ?_;refine ZY fun b1 nb1 zb1=>?_;(try simp only[ZS]at nb1);refine xA ?_;refine ZY fun b2 nb2 zb2=>?_;(try simp only[ZS]at nb2);refine xA ?_;refine ZZ (t:=43) (e:=184) (sz:=33) (bytes:=296) qg Yce rfl rfl rfl rfl qh [_,_] L o k ((l.take k).flatMap YQ) k2 zY (Src.own List.mem_cons_self) (m:=1) (news:=YQ (.slice x1 (gr Z0 l k).2.2.yes.length y1,.slice x2 (gr Z0 l k).2.2.no.length y2,(gr Z0 l k).2.2)) rfl (by intro u hu;simp only[YQ,List.mem_cons,List.cons_append,List.nil_append,List.not_mem_nil,or_false]at hu;rcases hu with rfl|rfl|rfl|rfl|rfl|rfl|rfl|rfl|rfl|rfl|rfl|rfl|rfl|rfl|rfl|rfl|rfl|rfl|rfl|rfl|rfl|rfl|rfl|rfl|rfl|rfl|rfl|rfl|rfl|rfl|rfl|rfl|rfl<;>rfl) qm qf ?_;intro o' j1 j2 j3;refine xx ?_;refine⟨k+1,o',⟨qf,j1,ZV (ZV j2)⟩,qf,qi,?_⟩;rw[et,List.flatMap_append,List.flatMap_cons,List.flatMap_nil,List.append_nil,show gr Z0 l k=(.slice x1 (gr Z0 l k).2.2.yes.length y1,.slice x2 (gr Z0 l k).2.2.no.length y2,(gr Z0 l k).2.2) from Prod.ext hv1 (Prod.ext hv2 rfl)];exact(Za.tail _ _ _).trans (Za.tail _ _ _)
 ·have hkl:k=l.length:=qf;subst hkl;refine xx ?_;exact Yv (n:=l.length) k2 (Z1 hd.len l) qf k3 fun h' le sl=>ZP (hk h' _ le (Zd.pub hd.len sl))
end Go.X
