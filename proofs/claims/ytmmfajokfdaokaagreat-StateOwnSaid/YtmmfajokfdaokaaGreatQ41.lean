/- Lemmas and contracts for a statement about the given program. Conditions: as each says. -/
import Derived.Test.YtmmfajokfdaokaaGreatQ11
set_option linter.unusedVariables false
set_option linter.unusedSimpArgs false
set_option maxHeartbeats 12800000
set_option maxRecDepth 20000
namespace Go.X
open Go.RowKit Go.Proofs Go.Bl
variable {L:Own} {h:PH} {K:PK}
@[go_sem ↓] theorem eqParF (p:ParD) (x y:Operand) (K:Value→Prop) (t:Tok K):xBin Tryz.prog .eql 43 x y (parV p) (parV p) K t=K (.bool true):=xBin_eqflat _ (by kernel_rfl) (by kernel_rfl) x y K t
@[go_sem ↓] theorem neParF (p:ParD) (x y:Operand) (K:Value→Prop) (t:Tok K):xBin Tryz.prog .neq 43 x y (parV p) (parV p) K t=K (.bool false):=xBin_neflat _ (by kernel_rfl) (by kernel_rfl) x y K t
theorem neMemF (m:MemD) (x y:Operand) (K:Value→Prop) (t:Tok K):xBin Tryz.prog .neq 120 x y (.agg #[.int .u64 m.bal,.int .u64 m.eff,.int .u64 m.score,.int .i64 m.streak,.int .i64 m.owner,.int .i64 m.status]) (.agg #[.int .u64 m.bal,.int .u64 m.eff,.int .u64 m.score,.int .i64 m.streak,.int .i64 m.owner,.int .i64 m.status]) K t=K (.bool false):=xBin_neflat _ (by kernel_rfl) (by kernel_rfl) x y K t
theorem neDepF (d:DepD) (x y:Operand) (K:Value→Prop) (t:Tok K):xBin Tryz.prog .neq 208 x y (.agg #[.int .i64 d.acct,.int .i64 d.mem,.int .u64 d.amt,.bool d.new]) (.agg #[.int .i64 d.acct,.int .i64 d.mem,.int .u64 d.amt,.bool d.new]) K t=K (.bool false):=xBin_neflat _ (by kernel_rfl) (by kernel_rfl) x y K t
theorem neDueF (d:DueD) (x y:Operand) (K:Value→Prop) (t:Tok K):xBin Tryz.prog .neq 209 x y (.agg #[.int .i64 d.acct,.int .i64 d.at',.int .u64 d.amt]) (.agg #[.int .i64 d.acct,.int .i64 d.at',.int .u64 d.amt]) K t=K (.bool false):=xBin_neflat _ (by kernel_rfl) (by kernel_rfl) x y K t
theorem mot1_same (m:MotD) (v1 v2 u1 u2:Value) (hy1:Ints h .u8 v1 m.yes) (hn1:Ints h .u8 v2 m.no) (hy2:Ints h .u8 u1 m.yes) (hn2:Ints h .u8 u2 m.no) (hk:K (.bool true) L h) :
  Spec Tryz.prog 127 [.agg (motC (v1,v2,m)).toArray,.agg (motC (u1,u2,m)).toArray] L h K:=by
 have a1:=hy1
 have a2:=hn1
 have a3:=hy2
 have a4:=hn2
 obtain ⟨x1,y1,rfl,_⟩:=a1.open
 obtain ⟨x2,y2,rfl,_⟩:=a2.open
 obtain ⟨x3,y3,rfl,_⟩:=a3.open
 obtain ⟨x4,y4,rfl,_⟩:=a4.open
 refine x_enter Tryz.func127 rfl (rs:=[_]) rfl rfl mixed (by kernel_rfl) rfl rfl ?_
 simp -dsimp -implicitDefEqProofs (disch:=first|with_reducible assumption|omega) [go_sem,motC]
 refine xnew fun b1 n_b1 h_b1=>?_
 try simp only [Apart] at n_b1
 simp -dsimp -implicitDefEqProofs (disch:=first|with_reducible assumption|omega) [go_sem,motC]
 refine xnew fun b2 n_b2 h_b2=>?_
 try simp only [Apart] at n_b2
 simp -dsimp -implicitDefEqProofs (disch:=first|with_reducible assumption|omega) [go_sem,motC]
 refine same8 _ _ hy1 hy2 ?_
 rw [decide_eq_true rfl]
 refine xx ?_
 refine same8 _ _ hn1 hn2 ?_
 rw [decide_eq_true rfl]
 refine xx ?_
 exact fin_tail (fin_tail (fin_here hk))
theorem motq_same (q1 q2:QM) (i1:IsMot h q1) (i2:IsMot h q2) (he:q2.2.2=q1.2.2) (hk:K (.bool true) L h):Spec Tryz.prog 127 [.agg (motC q1).toArray,.agg (motC q2).toArray] L h K:=by
 obtain ⟨v1,v2,m⟩:=q1
 obtain ⟨u1,u2,m'⟩:=q2
 simp only at he
 subst he
 exact mot1_same m' v1 v2 u1 u2 i1.y i1.n i2.y i2.n hk
theorem money_same {xs:List Int} (v u:Value) (hx:Ints h .u64 v xs) (hy:Ints h .u64 u xs) (hk:K (.bool true) L h):Spec Tryz.prog 49 [v,u] L h K:=by
 obtain ⟨a,ca,rfl,hna,hca,_,hcx⟩:=hx.open
 obtain ⟨b,cb,rfl,hnb,hcb,_,hcy⟩:=hy.open
 refine x_enter Tryz.func49 rfl (rs:=[_]) rfl rfl mixed (by kernel_rfl) rfl rfl ?_
 refine xx ?_
 refine xloop' (0:Nat) (fun k=>k≤xs.length) (fun k=>[(5,.int .i64 k),(0,.slice a xs.length ca),(1,.slice b xs.length cb)]) (fun k=>xs.length-k) ?_ ?_ ?_
 ·exact Nat.zero_le _
 ·simp [Ent,List.lookup,xEnv]
 rintro k k1
 by_cases c1:k<xs.length
 ·refine xx ?_
  refine xdraw (by kernel_rfl) rfl ?_
  simp -dsimp -implicitDefEqProofs (disch:=first|with_reducible assumption|omega) [go_sem,idx hcx,idx hcy]
  exact ⟨k+1,by omega,by omega,by simp [Ent,List.lookup],Drop.refl _ _⟩
 ·refine xx ?_
  exact fin_here hk
theorem ints16_same {xs:List Int} (v u:Value) (hx:Ints h .i64 v xs) (hy:Ints h .i64 u xs) (hk:K (.bool true) L h):Spec Tryz.prog 50 [v,u] L h K:=by
 obtain ⟨a,ca,rfl,hna,hca,_,hcx⟩:=hx.open
 obtain ⟨b,cb,rfl,hnb,hcb,_,hcy⟩:=hy.open
 refine x_enter Tryz.func50 rfl (rs:=[_]) rfl rfl mixed (by kernel_rfl) rfl rfl ?_
 refine xx ?_
 refine xloop' (0:Nat) (fun k=>k≤xs.length) (fun k=>[(5,.int .i64 k),(0,.slice a xs.length ca),(1,.slice b xs.length cb)]) (fun k=>xs.length-k) ?_ ?_ ?_
 ·exact Nat.zero_le _
 ·simp [Ent,List.lookup,xEnv]
 rintro k k1
 by_cases c1:k<xs.length
 ·refine xx ?_
  refine xdraw (by kernel_rfl) rfl ?_
  simp -dsimp -implicitDefEqProofs (disch:=first|with_reducible assumption|omega) [go_sem,idx hcx,idx hcy]
  exact ⟨k+1,by omega,by omega,by simp [Ent,List.lookup],Drop.refl _ _⟩
 ·refine xx ?_
  exact fin_here hk
theorem deps_same {l:List DepD} (v u:Value) (hx:Recs depC 4 h v l) (hy:Recs depC 4 h u l) (hk:K (.bool true) L h):Spec Tryz.prog 51 [v,u] L h K:=by
 obtain ⟨a,ca,rfl,hna,hca,_,hd⟩:=hx.open
 obtain ⟨b,cb,rfl,hnb,hcb,_,hd'⟩:=hy.open
 refine x_enter Tryz.func51 rfl (rs:=[_]) rfl rfl mixed (by kernel_rfl) rfl rfl ?_
 refine xx ?_
 refine xloop' (0:Nat) (fun k=>k≤l.length) (fun k=>[(5,.int .i64 k),(0,.slice a l.length ca),(1,.slice b l.length cb)]) (fun k=>l.length-k) ?_ ?_ ?_
 ·exact Nat.zero_le _
 ·simp [Ent,List.lookup,xEnv]
 rintro k k1
 by_cases c1:k<l.length
 ·refine xx ?_
  refine xdraw (by kernel_rfl) rfl ?_
  simp -dsimp -implicitDefEqProofs (disch:=first|with_reducible assumption|omega) [go_sem,↓idxR zeroDep (by decide) hd,↓idxR zeroDep (by decide) hd',depC,neDepF]
  exact ⟨k+1,by omega,by omega,by simp [Ent,List.lookup],Drop.refl _ _⟩
 ·refine xx ?_
  exact fin_here hk
theorem dues_same {l:List DueD} (v u:Value) (hx:Recs dueC 3 h v l) (hy:Recs dueC 3 h u l) (hk:K (.bool true) L h):Spec Tryz.prog 52 [v,u] L h K:=by
 obtain ⟨a,ca,rfl,hna,hca,_,hd⟩:=hx.open
 obtain ⟨b,cb,rfl,hnb,hcb,_,hd'⟩:=hy.open
 refine x_enter Tryz.func52 rfl (rs:=[_]) rfl rfl mixed (by kernel_rfl) rfl rfl ?_
 refine xx ?_
 refine xloop' (0:Nat) (fun k=>k≤l.length) (fun k=>[(5,.int .i64 k),(0,.slice a l.length ca),(1,.slice b l.length cb)]) (fun k=>l.length-k) ?_ ?_ ?_
 ·exact Nat.zero_le _
 ·simp [Ent,List.lookup,xEnv]
 rintro k k1
 by_cases c1:k<l.length
 ·refine xx ?_
  refine xdraw (by kernel_rfl) rfl ?_
  simp -dsimp -implicitDefEqProofs (disch:=first|with_reducible assumption|omega) [go_sem,↓idxR zeroDue (by decide) hd,↓idxR zeroDue (by decide) hd',dueC,neDueF]
  exact ⟨k+1,by omega,by omega,by simp [Ent,List.lookup],Drop.refl _ _⟩
 ·refine xx ?_
  exact fin_here hk
theorem mots_same {l1 l2:List QM} (v u:Value) (hx:Recs motC 33 h v l1) (hy:Recs motC 33 h u l2) (hm1:∀ x∈l1,IsMot h x) (hm2:∀ x∈l2,IsMot h x) (he:l1.map (fun x=>x.2.2)=l2.map (fun x=>x.2.2)) (hk:K (.bool true) L h):Spec Tryz.prog 53 [v,u] L h K:=by
 obtain ⟨a,ca,rfl,hna,hca,_,hd⟩:=hx.open
 obtain ⟨b,cb,rfl,hnb,hcb,_,hd'⟩:=hy.open
 have hlen:l1.length=l2.length:=by simpa using congrArg List.length he
 refine x_enter Tryz.func53 rfl (rs:=[_]) rfl rfl mixed (by kernel_rfl) rfl rfl ?_
 refine xx ?_
 refine xloop' (0:Nat) (fun k=>k≤l1.length) (fun k=>[(5,.int .i64 k),(0,.slice a l1.length ca),(1,.slice b l2.length cb)]) (fun k=>l1.length-k) ?_ ?_ ?_
 ·exact Nat.zero_le _
 ·simp [Ent,List.lookup,xEnv]
 rintro k k1
 by_cases c1:k<l1.length
 ·have hg:(gr zeroQM l2 k).2.2=(gr zeroQM l1 k).2.2:=by
   have e1:(l1.map (fun x=>x.2.2))[k]?=(l2.map (fun x=>x.2.2))[k]?:=by rw [he]
   simp only [List.getElem?_map,List.getElem?_eq_getElem c1,List.getElem?_eq_getElem (show k<l2.length by omega)] at e1
   rw [gr_lt c1,gr_lt (show k<l2.length by omega)]
   exact (Option.some.inj e1).symm
  have i1:IsMot h (gr zeroQM l1 k):=by rw [gr_lt c1]; exact hm1 _ (List.getElem_mem c1)
  have i2:IsMot h (gr zeroQM l2 k):=by rw [gr_lt (show k<l2.length by omega)]; exact hm2 _ (List.getElem_mem (by omega))
  refine xx ?_
  refine xdraw (by kernel_rfl) rfl ?_
  simp -dsimp -implicitDefEqProofs (disch:=first|with_reducible assumption|omega) [go_sem,↓idxR zeroQM (by decide) hd,↓idxR zeroQM (by decide) hd']
  refine xdcall _ (motq_same _ _ i1 i2 hg ⟨rfl,rfl,rfl⟩) ?_
  refine xx ?_
  exact ⟨k+1,by omega,by omega,by simp [Ent,List.lookup],Drop.refl _ _⟩
 ·refine xx ?_
  exact fin_here hk
theorem ring_same {l1 l2:List QS} (v u:Value) (h1:Strs h v l1) (h2:Strs h u l2) (he:xsL l1=xsL l2) (hk:K (.bool true) L h):Spec Tryz.prog 54 [v,u] L h K:=by
 obtain ⟨a,ca,rfl,hc,hl,_,hcx,hd⟩:=h1.open
 obtain ⟨b,cb,rfl,hc',hl',_,hcy,hd'⟩:=h2.open
 have hlen:l1.length=l2.length:=by rw [← xsL_len l1,← xsL_len l2,he]
 refine x_enter Tryz.func54 rfl (rs:=[_]) rfl rfl mixed (by kernel_rfl) rfl rfl ?_
 refine xx ?_
 refine xloop' (0:Nat) (fun k=>k≤l1.length) (fun k=>[(5,.int .i64 k),(0,.slice a l1.length ca),(1,.slice b l2.length cb)]) (fun k=>l1.length-k) ?_ ?_ ?_
 ·exact Nat.zero_le _
 ·simp [Ent,List.lookup,xEnv]
 rintro k k1
 by_cases c1:k<l1.length
 ·have hi:=hd.at c1
  have hi':=hd'.at (i:=k) (by omega)
  have hg:(gs l2 k).2=(gs l1 k).2:=by
   have e1:=xsL_at c1
   rw [he,xsL_at (by omega)] at e1
   exact Option.some.inj e1
  rw [hg] at hi'
  refine xx ?_
  refine xdraw (by kernel_rfl) rfl ?_
  simp -dsimp -implicitDefEqProofs (disch:=first|with_reducible assumption|omega) [go_sem,idx hcx,idx hcy]
  refine xconv_str (e:=5) (by kernel_rfl) (by kernel_rfl) (by kernel_rfl) hi ?_
  simp -dsimp -implicitDefEqProofs (disch:=first|with_reducible assumption|omega) [go_sem,idx hcx,idx hcy]
  refine xconv_str (e:=5) (by kernel_rfl) (by kernel_rfl) (by kernel_rfl) hi' ?_
  simp -dsimp -implicitDefEqProofs (disch:=first|with_reducible assumption|omega) [go_sem,xBin_nestr,beq_self_eq_true]
  exact ⟨k+1,by omega,by omega,by simp [Ent,List.lookup],Drop.refl _ _⟩
 ·refine xx ?_
  exact fin_here hk
theorem same24_like {s:StD} {v u:SV} (h1:IsSt h v s) (h2:IsSt h u s) (hk:K (.bool true) L h):Spec Tryz.prog 14 [stV s v,stV s u] L h K:=by
 obtain ⟨vp,vm,ve,vx,vo,vd,vt,vk,vr⟩:=v
 obtain ⟨up,um,ue,ux,uo,ud,ut,uk,ur⟩:=u
 obtain ⟨_,p1,m1,_,e1,x1,o1,_,d1,_,⟨q1,t1,t1e,t1m⟩,k1,⟨r1,r1s,r1e⟩⟩:=h1
 obtain ⟨_,p2,m2,_,e2,x2,o2,_,d2,_,⟨q2,t2,t2e,t2m⟩,k2,⟨r2,r2s,r2e⟩⟩:=h2
 simp only at p1 m1 e1 x1 o1 d1 t1 k1 r1s p2 m2 e2 x2 o2 d2 t2 k2 r2s
 have cp1:=p1.open
 obtain ⟨ap1,zp1,rfl,_⟩:=cp1
 have cp2:=p2.open
 obtain ⟨ap2,zp2,rfl,_⟩:=cp2
 have cm1:=m1.open
 obtain ⟨am1,zm1,rfl,_⟩:=cm1
 have cm2:=m2.open
 obtain ⟨am2,zm2,rfl,_⟩:=cm2
 have ce1:=e1.open
 obtain ⟨ae1,ze1,rfl,_⟩:=ce1
 have ce2:=e2.open
 obtain ⟨ae2,ze2,rfl,_⟩:=ce2
 have cx1:=x1.open
 obtain ⟨ax1,zx1,rfl,_⟩:=cx1
 have cx2:=x2.open
 obtain ⟨ax2,zx2,rfl,_⟩:=cx2
 have co1:=o1.open
 obtain ⟨ao1,zo1,rfl,_⟩:=co1
 have co2:=o2.open
 obtain ⟨ao2,zo2,rfl,_⟩:=co2
 have cd1:=d1.open
 obtain ⟨ad1,zd1,rfl,_⟩:=cd1
 have cd2:=d2.open
 obtain ⟨ad2,zd2,rfl,_⟩:=cd2
 have ct1:=t1.open
 obtain ⟨at1,zt1,rfl,_⟩:=ct1
 have ct2:=t2.open
 obtain ⟨at2,zt2,rfl,_⟩:=ct2
 have ck1:=k1.open
 obtain ⟨ak1,zk1,rfl,_⟩:=ck1
 have ck2:=k2.open
 obtain ⟨ak2,zk2,rfl,_⟩:=ck2
 obtain ⟨ar1,zr1,rfl,_,_,_,_,r1t⟩:=r1s.open
 obtain ⟨ar2,zr2,rfl,_,_,_,_,r2t⟩:=r2s.open
 refine x_enter Tryz.func14 rfl (rs:=[_]) rfl rfl mixed (by kernel_rfl) rfl rfl ?_
 refine xx ?_
 refine xnew fun b1 n_b1 h_b1=>?_
 try simp only [Apart] at n_b1
 refine xx ?_
 refine xnew fun b2 n_b2 h_b2=>?_
 try simp only [Apart] at n_b2
 refine xx ?_
 refine xloop' (0:Nat) (fun k=>k≤s.members.length) (fun k=>[(5,.int .i64 k),(2,.pointer (some ⟨b1,0,none⟩)),(3,.pointer (some ⟨b2,0,none⟩))]) (fun k=>s.members.length-k) ?_ ?_ ?_
 ·exact Nat.zero_le _
 ·simp [Ent,List.lookup,xEnv]
 rintro k hk1
 by_cases c1:k<s.members.length
 ·refine xx ?_
  refine xdraw (by kernel_rfl) rfl ?_
  simp -dsimp -implicitDefEqProofs (disch:=first|with_reducible assumption|omega) [go_sem,↓idxR zeroM (by decide) m1,↓idxR zeroM (by decide) m2,memC,neMemF]
  exact ⟨k+1,by omega,by omega,by simp [Ent,List.lookup],Drop.refl _ _⟩
 refine xx ?_
 refine money_same _ _ p1 p2 ?_
 refine xx ?_
 refine ints16_same _ _ e1 e2 ?_
 refine xx ?_
 refine ints16_same _ _ x1 x2 ?_
 refine xx ?_
 refine deps_same _ _ o1 o2 ?_
 refine xx ?_
 refine dues_same _ _ d1 d2 ?_
 refine xx ?_
 refine mots_same _ _ t1 t2 t1m t2m (by rw [t1e,t2e]) ?_
 refine xx ?_
 refine xconv_str (e:=5) (by kernel_rfl) (by kernel_rfl) (by kernel_rfl) k1 ?_
 refine xx ?_
 refine xconv_str (e:=5) (by kernel_rfl) (by kernel_rfl) (by kernel_rfl) k2 ?_
 simp -dsimp -implicitDefEqProofs (disch:=first|with_reducible assumption|omega) [go_sem,xBin_eqstr,beq_self_eq_true]
 refine ring_same _ _ r1t r2t (by rw [r1e,r2e]) ?_
 refine xx ?_
 exact fin_tail (fin_tail (fin_here hk))
theorem plain24_any {s:StD} {v:SV} (hs:IsSt h v s) (hn1:s.members.length≤100000) (hn2:s.pool.length≤100000) (hn3:s.dues.length≤100000) (hn4:s.motions.length≤100000) (hk:∀ h' u,PH.le h h'→IsSt h' u s→K (stV s u) L h'):Spec Tryz.prog 15 [stV s v] L h K:=by
 obtain ⟨vp,vm,ve,vx,vo,vd,vt,vk,vr⟩:=v
 obtain ⟨ok1,p1,m1,mo1,e1,x1,o1,oo1,d1,dd1,⟨q1,t1,t1e,t1m⟩,k1,⟨r1,r1s,r1e⟩⟩:=hs
 simp only at p1 m1 e1 x1 o1 d1 t1 k1 r1s
 have cp1:=p1.open
 obtain ⟨ap1,zp1,rfl,_⟩:=cp1
 have cm1:=m1.open
 obtain ⟨am1,zm1,rfl,_⟩:=cm1
 have ce1:=e1.open
 obtain ⟨ae1,ze1,rfl,_⟩:=ce1
 have cx1:=x1.open
 obtain ⟨ax1,zx1,rfl,_⟩:=cx1
 have co1:=o1.open
 obtain ⟨ao1,zo1,rfl,_⟩:=co1
 have cd1:=d1.open
 obtain ⟨ad1,zd1,rfl,_⟩:=cd1
 have ct1:=t1.open
 obtain ⟨at1,zt1,rfl,_⟩:=ct1
 have ck1:=k1.open
 obtain ⟨ak1,zk1,rfl,_⟩:=ck1
 obtain ⟨ar1,zr1,rfl,_,_,_,_,r1t⟩:=r1s.open
 have hql:q1.length≤100000:=by have:=congrArg List.length t1e; simp at this; omega
 refine x_enter Tryz.func15 rfl (rs:=[_]) rfl rfl mixed (by kernel_rfl) rfl rfl ?_
 refine xx ?_
 refine xnew fun b1 n_b1 h_b1=>?_
 try simp only [Apart] at n_b1
 refine xx ?_
 refine xnew fun b2 n_b2 h_b2=>?_
 try simp only [Apart] at n_b2
 refine xx ?_
 refine xanyl (.tk 0 (.tk 2 (.tk 4 (.tk 6 (.tk 8 (.tk 10 (.tk 12 (.tk 14 (.tk 16 (.tk 18 (.tk 20 (.tk 23 (.tk 25 (.tk 27 (.tk 30 (.tk 33 (.tk 36 (.tk 38 (.tkl 1 (.tkl 3 (.tkl 5 (.tkl 7 (.tkl 9 (.tkl 11 (.tkl 13 (.tkl 15 (.tkl 17 (.tkl 19 (.tkl 21 (.tkl 24 (.tkl 26 (.tkl 28 (.tkl 31 (.tkl 34 (.tkl 37 (.tkl 39 (.or true 22 (.or true 29 (.or true 32 (.or true 35 (.tk 40 (.or false 41 (.fin) (.nil))) (.nil)) (.nil)) (.nil)) (.nil)))))))))))))))))))))))))))))))))))))) (by kernel_rfl) (by kernel_rfl) _ (Drop.refl _ _) ?_
 refine xx ?_
 refine Spec.apn (mplain_any _ m1 hn1 fun h2 r2 le2 hr2 ap nd=>?_)
 simp only [Ap] at ap
 obtain ⟨u1,u2,_⟩:=ap
 have hr2':=hr2
 obtain ⟨am2,zm2,rfl,_⟩:=hr2'.open
 refine xx ?_
 refine xkp (Drop.forget le2) ?_
 refine xx ?_
 refine Spec.apn (depplain_any _ (o1.up le2) hn2 fun h5 r5 le5 hr5 ap nd=>?_)
 simp only [Ap] at ap
 obtain ⟨v5,w5,_⟩:=ap
 have hr5':=hr5
 obtain ⟨as5,zs5,rfl,_⟩:=hr5'.open
 refine xx ?_
 refine xkp (Drop.forget (le2.trans le5)) ?_
 refine xx ?_
 refine Spec.apn (dueplain_any _ (d1.up (le2.trans le5)) hn3 fun h6 r6 le6 hr6 ap nd=>?_)
 simp only [Ap] at ap
 obtain ⟨v6,w6,_⟩:=ap
 have hr6':=hr6
 obtain ⟨as6,zs6,rfl,_⟩:=hr6'.open
 refine xx ?_
 refine xkp (Drop.forget ((le2.trans le5).trans le6)) ?_
 refine xx ?_
 refine Spec.apn (motplain_any _ (t1.up (le2.trans (le5.trans le6))) (fun x hx=>(t1m x hx).up (le2.trans (le5.trans le6))) hql fun h7 r7 le7 hr7 ap nd=>?_)
 simp only [Ap] at ap
 obtain ⟨v7,w7,_⟩:=ap
 have hr7':=hr7
 obtain ⟨as7,zs7,rfl,_⟩:=hr7'.open
 refine xx ?_
 refine xkp (Drop.forget ((le2.trans (le5.trans le6)).trans le7)) ?_
 refine xx ?_
 have LE:=le2.trans (le5.trans (le6.trans le7))
 have hu:IsSt h7 ⟨.slice ap1 s.purses.length zp1,.slice am2 s.members.length zm2,.slice ae1 s.entry.length ze1,.slice ax1 s.exit.length zx1,.slice as5 s.pool.length zs5,.slice as6 s.dues.length zs6,.slice as7 q1.length zs7,.slice ak1 s.marks.length zk1,.slice ar1 r1.length zr1⟩ s :=
  ⟨ok1,p1.up LE,hr2.up (le5.trans (le6.trans le7)),mo1,e1.up LE,x1.up LE,hr5.up (le6.trans le7),oo1,hr6.up le7,dd1,⟨q1,hr7,t1e,fun x hx=>(t1m x hx).up LE⟩,k1.up LE,⟨r1,r1t.up LE,r1e⟩⟩
 exact fin_tail (fin_tail (fin_here (hk h7 _ LE hu)))
end Go.X
