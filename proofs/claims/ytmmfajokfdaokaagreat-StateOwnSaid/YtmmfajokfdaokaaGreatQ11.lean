/- Lemmas and contracts for a statement about the given program. Conditions: as each says. -/
import Derived.Test.YtmmfajokfdaokaaGreatQ07
import Derived.Test.YtmmfajokfdaokaaGreatQ09
import Derived.Test.YtmmfajokfdaokaaGreatQ10
set_option linter.unusedVariables false
set_option linter.unusedSimpArgs false
set_option maxHeartbeats 12800000
set_option maxRecDepth 20000
namespace Go.X
open Go.RowKit Go.Proofs Go.Bl
variable {L:Own} {h:PH} {K:PK}
theorem mplain1_any (m:MemD) (hk:K (.agg #[.int .u64 m.bal,.int .u64 m.eff,.int .u64 m.score,.int .i64 m.streak,.int .i64 m.owner,.int .i64 m.status]) L h):Spec Tryz.prog 128 [.agg #[.int .u64 m.bal,.int .u64 m.eff,.int .u64 m.score,.int .i64 m.streak,.int .i64 m.owner,.int .i64 m.status]] L h K:=by
 refine x_enter Tryz.func128 rfl (rs:=[_]) rfl rfl mixed (by kernel_rfl) rfl rfl ?_
 refine xx ?_
 refine xnew fun b1 n_b1 h_b1=>?_
 try simp only [Apart] at n_b1
 refine xx ?_
 refine xnew fun b2 n_b2 h_b2=>?_
 try simp only [Apart] at n_b2
 refine xx ?_
 exact fin_tail (fin_tail (fin_here hk))
theorem mplain_any {l:List MemD} (v:Value) (hd0:Recs memC 6 h v l) (hn:l.length≤100000) (hk:∀ h' r,PH.le h h'→Recs memC 6 h' r l→K r L h'):Spec Tryz.prog 55 [v] L h K:=by
 obtain ⟨a,c,rfl,hc,hl,_,hd⟩:=hd0.open
 refine x_enter Tryz.func55 rfl (rs:=[_]) rfl rfl mixed (by kernel_rfl) rfl rfl ?_
 refine xx ?_
 refine xloop (γ:=Nat×Option (Nat×Nat)) (0,none) (fun s=>s.1≤l.length∧okO s.2 s.1∧apO s.2 L h) (fun s=>[(8,.int .i64 s.1),(7,.int .i64 l.length),(6,.slice a l.length c),(3,ovs s.2 s.1)])
  (fun s=>oent 120 6 s.2 ((l.take s.1).flatMap memC) L) (fun _=>h) (fun s=>l.length-s.1) ?_ ?_ ?_ ?_
 ·exact ⟨Nat.zero_le _,rfl,trivial⟩
 ·simp [Ent,List.lookup,xEnv,ovs]
 ·exact Drop.refl _ _
 rintro ⟨k,o⟩ ⟨k1,k2,k3⟩
 simp only at k1 k2 k3 ⊢
 have hlt:(l.take k).length=k:=by simp [k1]
 by_cases c1:k<l.length
 ·have et:l.take (k+1)=l.take k++[gr zeroM l k]:=by rw [gr_lt c1,List.take_succ_eq_append_getElem c1]
  simp -dsimp -implicitDefEqProofs (disch:=first|with_reducible assumption|omega) [go_sem,↓idxR zeroM (by decide) hd,memC]
  refine xnew fun b1 n_b1 h_b1=>?_
  try simp only [Apart] at n_b1
  simp -dsimp -implicitDefEqProofs (disch:=first|with_reducible assumption|omega) [go_sem,memC]
  refine mplain1_any (gr zeroM l k) ?_
  refine xx ?_
  refine xnew fun b2 n_b2 h_b2=>?_
  try simp only [Apart] at n_b2
  simp -dsimp -implicitDefEqProofs (disch:=first|with_reducible assumption|omega) [go_sem,memC]
  refine xappend (t:=44) (e:=120) (sz:=6) (bytes:=48) (by kernel_rfl) tI_120 rfl rfl rfl rfl (by decide) [_,_] L o k ((l.take k).flatMap memC) k2 (by rw [flatG_len hd.len,hlt]) (Src.own List.mem_cons_self) (m:=1) (news:=memC (gr zeroM l k)) rfl (by intro u hu; simp only [memC,List.mem_cons,List.not_mem_nil,or_false] at hu; rcases hu with rfl | rfl | rfl | rfl | rfl | rfl<;>rfl) (by simp [maxLen]; omega) (by omega) ?_
  intro o' j1 j2 j3
  refine xx ?_
  refine ⟨k+1,o',⟨by omega,j1,apO_tail (apO_tail j2)⟩,by omega,by simp [Ent,List.lookup],?_⟩
  rw [et,List.flatMap_append,List.flatMap_cons,List.flatMap_nil,List.append_nil]
  exact (Drop.tail _ _ _).trans (Drop.tail _ _ _)
 ·have hkl:k=l.length:=by omega
  subst hkl
  refine xx ?_
  exact fin_pub (n:=l.length) k2 (flatG_len hd.len l) (by omega) k3 fun h' le sl=>fin_here (hk h' _ le (Recs.pub hd.len sl))
theorem depplain_any {l:List DepD} (v:Value) (hd0:Recs depC 4 h v l) (hn:l.length≤100000) (hk:∀ h' r,PH.le h h'→Recs depC 4 h' r l→K r L h'):Spec Tryz.prog 56 [v] L h K:=by
 obtain ⟨a,c,rfl,hc,hl,_,hd⟩:=hd0.open
 refine x_enter Tryz.func56 rfl (rs:=[_]) rfl rfl mixed (by kernel_rfl) rfl rfl ?_
 refine xx ?_
 refine xloop (γ:=Nat×Option (Nat×Nat)) (0,none) (fun s=>s.1≤l.length∧okO s.2 s.1∧apO s.2 L h) (fun s=>[(8,.int .i64 s.1),(7,.int .i64 l.length),(6,.slice a l.length c),(3,ovs s.2 s.1)])
  (fun s=>oent 208 4 s.2 ((l.take s.1).flatMap depC) L) (fun _=>h) (fun s=>l.length-s.1) ?_ ?_ ?_ ?_
 ·exact ⟨Nat.zero_le _,rfl,trivial⟩
 ·simp [Ent,List.lookup,xEnv,ovs]
 ·exact Drop.refl _ _
 rintro ⟨k,o⟩ ⟨k1,k2,k3⟩
 simp only at k1 k2 k3 ⊢
 have hlt:(l.take k).length=k:=by simp [k1]
 by_cases c1:k<l.length
 ·have et:l.take (k+1)=l.take k++[gr zeroDep l k]:=by rw [gr_lt c1,List.take_succ_eq_append_getElem c1]
  simp -dsimp -implicitDefEqProofs (disch:=first|with_reducible assumption|omega) [go_sem,↓idxR zeroDep (by decide) hd,depC]
  refine xnew fun b1 n_b1 h_b1=>?_
  try simp only [Apart] at n_b1
  simp -dsimp -implicitDefEqProofs (disch:=first|with_reducible assumption|omega) [go_sem,depC]
  refine xnew fun b2 n_b2 h_b2=>?_
  try simp only [Apart] at n_b2
  simp -dsimp -implicitDefEqProofs (disch:=first|with_reducible assumption|omega) [go_sem,depC]
  refine xappend (t:=45) (e:=208) (sz:=4) (bytes:=32) (by kernel_rfl) tI_208 rfl rfl rfl rfl (by decide) [_,_] L o k ((l.take k).flatMap depC) k2 (by rw [flatG_len hd.len,hlt]) (Src.own List.mem_cons_self) (m:=1) (news:=depC (gr zeroDep l k)) rfl (by intro u hu; simp only [depC,List.mem_cons,List.not_mem_nil,or_false] at hu; rcases hu with rfl | rfl | rfl | rfl<;>rfl) (by simp [maxLen]; omega) (by omega) ?_
  intro o' j1 j2 j3
  refine xx ?_
  refine ⟨k+1,o',⟨by omega,j1,apO_tail (apO_tail j2)⟩,by omega,by simp [Ent,List.lookup],?_⟩
  rw [et,List.flatMap_append,List.flatMap_cons,List.flatMap_nil,List.append_nil]
  exact (Drop.tail _ _ _).trans (Drop.tail _ _ _)
 ·have hkl:k=l.length:=by omega
  subst hkl
  refine xx ?_
  exact fin_pub (n:=l.length) k2 (flatG_len hd.len l) (by omega) k3 fun h' le sl=>fin_here (hk h' _ le (Recs.pub hd.len sl))
theorem dueplain_any {l:List DueD} (v:Value) (hd0:Recs dueC 3 h v l) (hn:l.length≤100000) (hk:∀ h' r,PH.le h h'→Recs dueC 3 h' r l→K r L h'):Spec Tryz.prog 57 [v] L h K:=by
 obtain ⟨a,c,rfl,hc,hl,_,hd⟩:=hd0.open
 refine x_enter Tryz.func57 rfl (rs:=[_]) rfl rfl mixed (by kernel_rfl) rfl rfl ?_
 refine xx ?_
 refine xloop (γ:=Nat×Option (Nat×Nat)) (0,none) (fun s=>s.1≤l.length∧okO s.2 s.1∧apO s.2 L h) (fun s=>[(8,.int .i64 s.1),(7,.int .i64 l.length),(6,.slice a l.length c),(3,ovs s.2 s.1)])
  (fun s=>oent 209 3 s.2 ((l.take s.1).flatMap dueC) L) (fun _=>h) (fun s=>l.length-s.1) ?_ ?_ ?_ ?_
 ·exact ⟨Nat.zero_le _,rfl,trivial⟩
 ·simp [Ent,List.lookup,xEnv,ovs]
 ·exact Drop.refl _ _
 rintro ⟨k,o⟩ ⟨k1,k2,k3⟩
 simp only at k1 k2 k3 ⊢
 have hlt:(l.take k).length=k:=by simp [k1]
 by_cases c1:k<l.length
 ·have et:l.take (k+1)=l.take k++[gr zeroDue l k]:=by rw [gr_lt c1,List.take_succ_eq_append_getElem c1]
  simp -dsimp -implicitDefEqProofs (disch:=first|with_reducible assumption|omega) [go_sem,↓idxR zeroDue (by decide) hd,dueC]
  refine xnew fun b1 n_b1 h_b1=>?_
  try simp only [Apart] at n_b1
  simp -dsimp -implicitDefEqProofs (disch:=first|with_reducible assumption|omega) [go_sem,dueC]
  refine xnew fun b2 n_b2 h_b2=>?_
  try simp only [Apart] at n_b2
  simp -dsimp -implicitDefEqProofs (disch:=first|with_reducible assumption|omega) [go_sem,dueC]
  refine xappend (t:=46) (e:=209) (sz:=3) (bytes:=24) (by kernel_rfl) tI_209 rfl rfl rfl rfl (by decide) [_,_] L o k ((l.take k).flatMap dueC) k2 (by rw [flatG_len hd.len,hlt]) (Src.own List.mem_cons_self) (m:=1) (news:=dueC (gr zeroDue l k)) rfl (by intro u hu; simp only [dueC,List.mem_cons,List.not_mem_nil,or_false] at hu; rcases hu with rfl | rfl | rfl<;>rfl) (by simp [maxLen]; omega) (by omega) ?_
  intro o' j1 j2 j3
  refine xx ?_
  refine ⟨k+1,o',⟨by omega,j1,apO_tail (apO_tail j2)⟩,by omega,by simp [Ent,List.lookup],?_⟩
  rw [et,List.flatMap_append,List.flatMap_cons,List.flatMap_nil,List.append_nil]
  exact (Drop.tail _ _ _).trans (Drop.tail _ _ _)
 ·have hkl:k=l.length:=by omega
  subst hkl
  refine xx ?_
  exact fin_pub (n:=l.length) k2 (flatG_len hd.len l) (by omega) k3 fun h' le sl=>fin_here (hk h' _ le (Recs.pub hd.len sl))
theorem motplain_any {l:List QM} (v:Value) (hd0:Recs motC 33 h v l) (hm:∀ x∈l,IsMot h x) (hn:l.length≤100000) (hk:∀ h' r,PH.le h h'→Recs motC 33 h' r l→K r L h'):Spec Tryz.prog 58 [v] L h K:=by
 obtain ⟨a,c,rfl,hc,hl,_,hd⟩:=hd0.open
 refine x_enter Tryz.func58 rfl (rs:=[_]) rfl rfl mixed (by kernel_rfl) rfl rfl ?_
 refine xx ?_
 refine xloop (γ:=Nat×Option (Nat×Nat)) (0,none) (fun s=>s.1≤l.length∧okO s.2 s.1∧apO s.2 L h) (fun s=>[(8,.int .i64 s.1),(7,.int .i64 l.length),(6,.slice a l.length c),(3,ovs s.2 s.1)])
  (fun s=>oent 161 33 s.2 ((l.take s.1).flatMap motC) L) (fun _=>h) (fun s=>l.length-s.1) ?_ ?_ ?_ ?_
 ·exact ⟨Nat.zero_le _,rfl,trivial⟩
 ·simp [Ent,List.lookup,xEnv,ovs]
 ·exact Drop.refl _ _
 rintro ⟨k,o⟩ ⟨k1,k2,k3⟩
 simp only at k1 k2 k3 ⊢
 have hlt:(l.take k).length=k:=by simp [k1]
 by_cases c1:k<l.length
 ·have et:l.take (k+1)=l.take k++[gr zeroQM l k]:=by rw [gr_lt c1,List.take_succ_eq_append_getElem c1]
  have hx:IsMot h (gr zeroQM l k):=by rw [gr_lt c1]; exact hm _ (List.getElem_mem c1)
  obtain ⟨x1,y1,hv1,_⟩:=hx.y.open
  obtain ⟨x2,y2,hv2,_⟩:=hx.n.open
  simp -dsimp -implicitDefEqProofs (disch:=first|with_reducible assumption|omega) [go_sem,↓idxR zeroQM (by decide) hd,motC]
  refine xnew fun b1 n_b1 h_b1=>?_
  try simp only [Apart] at n_b1
  simp -dsimp -implicitDefEqProofs (disch:=first|with_reducible assumption|omega) [go_sem,motC,hv1,hv2]
  refine xnew fun b2 n_b2 h_b2=>?_
  try simp only [Apart] at n_b2
  simp -dsimp -implicitDefEqProofs (disch:=first|with_reducible assumption|omega) [go_sem,motC,hv1,hv2]
  refine xappend (t:=47) (e:=161) (sz:=33) (bytes:=296) (by kernel_rfl) tI_161 rfl rfl rfl rfl (by decide) [_,_] L o k ((l.take k).flatMap motC) k2 (by rw [flatG_len hd.len,hlt]) (Src.own List.mem_cons_self) (m:=1) (news:=motC (.slice x1 (gr zeroQM l k).2.2.yes.length y1,.slice x2 (gr zeroQM l k).2.2.no.length y2,(gr zeroQM l k).2.2)) rfl (by intro u hu; simp only [motC,List.mem_cons,List.cons_append,List.nil_append,List.not_mem_nil,or_false] at hu; rcases hu with rfl | rfl | rfl | rfl | rfl | rfl | rfl | rfl | rfl | rfl | rfl | rfl | rfl | rfl | rfl | rfl | rfl | rfl | rfl | rfl | rfl | rfl | rfl | rfl | rfl | rfl | rfl | rfl | rfl | rfl | rfl | rfl | rfl<;>rfl) (by simp [maxLen]; omega) (by omega) ?_
  intro o' j1 j2 j3
  refine xx ?_
  refine ⟨k+1,o',⟨by omega,j1,apO_tail (apO_tail j2)⟩,by omega,by simp [Ent,List.lookup],?_⟩
  rw [et,List.flatMap_append,List.flatMap_cons,List.flatMap_nil,List.append_nil,show gr zeroQM l k=(.slice x1 (gr zeroQM l k).2.2.yes.length y1,.slice x2 (gr zeroQM l k).2.2.no.length y2,(gr zeroQM l k).2.2) from Prod.ext hv1 (Prod.ext hv2 rfl)]
  exact (Drop.tail _ _ _).trans (Drop.tail _ _ _)
 ·have hkl:k=l.length:=by omega
  subst hkl
  refine xx ?_
  exact fin_pub (n:=l.length) k2 (flatG_len hd.len l) (by omega) k3 fun h' le sl=>fin_here (hk h' _ le (Recs.pub hd.len sl))
end Go.X
