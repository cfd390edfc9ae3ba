/- Lemmas and contracts for a statement about the given program. Conditions: as each says. -/
import Derived.Test.YtmmfajokfdaokaaGreatQ15
import Derived.Test.YtmmfajokfdaokaaGreatQ24
import Derived.Test.YtmmfajokfdaokaaGreatQ25
import Derived.Test.YtmmfajokfdaokaaGreatQ26
import Derived.Test.YtmmfajokfdaokaaGreatQ27
set_option linter.unusedVariables false
set_option linter.unusedSimpArgs false
set_option maxHeartbeats 12800000
set_option maxRecDepth 20000
namespace Go.X
open Go.RowKit Go.Proofs Go.Bl
variable {L:Own} {h:PH} {K:PK}
def ripeM (m:MotD) (now:Int) (qu:Bool):Bool:=decide (m.state=2)&&(decide (m.due≤now)&&(qu||(decide (m.what=3)||decide (m.what=4))))
def ripeI (ms:List MotD) (now:Int) (qu:Bool) (k:Nat):List Int:=((List.range k).filter fun i=>ripeM (gr zeroMot ms i) now qu).map fun i:Nat=>(i:Int)
theorem ripeI_len (ms:List MotD) (now:Int) (qu:Bool) (k:Nat):(ripeI ms now qu k).length≤k:=by
 unfold ripeI
 rw [List.length_map]
 exact Nat.le_trans (List.length_filter_le _ _) (by rw [List.length_range]; omega)
theorem ripeI_succ (ms:List MotD) (now:Int) (qu:Bool) (k:Nat):ripeI ms now qu (k+1)=ripeI ms now qu k++(if ripeM (gr zeroMot ms k) now qu then [(k:Int)] else []):=by
 unfold ripeI
 rw [List.range_succ,List.filter_append,List.map_append]
 congr 1
 simp only [List.filter]
 cases ripeM (gr zeroMot ms k) now qu<;>rfl
theorem ripeI_mem {ms:List MotD} {now:Int} {qu:Bool} {k:Nat} {z:Int} (hz:z∈ripeI ms now qu k):0≤z∧z<k:=by
 obtain ⟨i,hi,rfl⟩:=List.mem_map.1 hz
 have:=List.mem_range.1 (List.mem_filter.1 hi).1
 omega
theorem mripe_any {ql:List QM} {ms:List MotD} (v:Value) (hv:Recs motC 33 h v ql) (hq:ql.map (fun x=>x.2.2)=ms) (hm:MotsOk h ql) (hl:ql.length≤1000) (now:Int) (qu:Bool)
  (hk:∀ h' r,PH.le h h'→Ints h' .i64 r (ripeI ms now qu ms.length)→K r L h'):Spec Tryz.prog 160 [v,.int .i64 now,.bool qu] L h K:=by
 have hql:ql.length=ms.length:=by rw [← hq,List.length_map]
 obtain ⟨va,vc,rfl,_,_,_,hd⟩:=hv.open
 rw [hql] at hd
 refine x_enter Tryz.func160 rfl (rs:=[_]) rfl rfl mixed (by kernel_rfl) rfl rfl ?_
 refine xx ?_
 rw [hql]
 refine xloop (γ:=Nat×Option (Nat×Nat)) (0,none) (fun q=>q.1≤ms.length∧okO q.2 (ripeI ms now qu q.1).length∧apO q.2 L h) (fun q=>[(12,.int .i64 q.1),(11,.int .i64 ms.length),(10,.slice va ms.length vc),(7,ovs q.2 (ripeI ms now qu q.1).length),(1,.int .i64 now),(2,.bool qu)]) (fun q=>oent 3 1 q.2 ((ripeI ms now qu q.1).map (.int .i64)) L) (fun _=>h) (fun q=>ms.length-q.1) ?_ ?_ ?_ ?_
 ·exact ⟨Nat.zero_le _,rfl,trivial⟩
 ·simp [Ent,List.lookup,xEnv,ovs,ripeI]
 ·exact Drop.refl _ _
 rintro ⟨j,o⟩ ⟨j1,j2,j3⟩
 simp only at j1 j2 j3 ⊢
 have hrl:=ripeI_len ms now qu j
 by_cases c1:j<ms.length
 ·have hs:=ripeI_succ ms now qu j
  obtain ⟨qk,hqk⟩:∃ qk,qk=gr zeroQM ql j:=⟨_,rfl⟩
  have hmem:qk∈ql:=by rw [hqk,gr_lt (by omega)]; exact List.getElem_mem _
  have hmk:IsMot h qk:=hm qk hmem
  have hgm:gr zeroMot ms j=qk.2.2:=by
   have e:ms[j]?=some qk.2.2:=by
    rw [← hq,List.getElem?_map,List.getElem?_eq_getElem (by omega),← gr_lt (z:=zeroQM) (by omega),← hqk]
    rfl
   rw [List.getElem?_eq_getElem c1] at e
   rw [gr_lt c1]
   exact Option.some.inj e
  rw [hgm] at hs
  have hy:=hmk.y
  have hn:=hmk.n
  obtain ⟨vy,vn,md⟩:=qk
  simp only at hy hn hs
  obtain ⟨ya,yc,rfl,_⟩:=hy.open
  obtain ⟨na,nc,rfl,_⟩:=hn.open
  have hqs:=hqk.symm
  simp -dsimp -implicitDefEqProofs (disch:=first|with_reducible assumption|omega) [go_sem,↓idxR zeroQM (by decide) hd,hqs,motC,parC,List.cons_append,List.nil_append]
  refine xnew fun b9 n_b9 h_b9=>?_
  try simp only [Apart] at n_b9
  have n9:=apart_oent n_b9
  simp -dsimp -implicitDefEqProofs (disch:=first|with_reducible assumption|omega) [go_sem,hqs,motC,parC,List.cons_append,List.nil_append]
  by_cases c2:md.state=2
  ·by_cases c3:md.due≤now
   ·cases qu with
    | true =>
     rw [if_pos (by simp [ripeM,c2,c3])] at hs
     refine xx ?_
     refine xnew fun b10 n_b10 h_b10=>?_
     try simp only [Apart] at n_b10
     refine xx ?_
     refine xappend (t:=32) (e:=3) (sz:=1) (bytes:=8) (by kernel_rfl) tI_3 rfl rfl rfl rfl (by decide) [_,_] L o (ripeI ms now true j).length _ j2 (by simp) (Src.own List.mem_cons_self) (m:=1) (news:=[.int .i64 j]) rfl (fun u hu=>by simp at hu; subst hu; rfl) (by simp [maxLen]; omega) (by omega) ?_
     intro o' i1 i2 i3
     refine xx ?_
     have hsl:(ripeI ms now true (j+1)).length=(ripeI ms now true j).length+1:=by rw [hs,List.length_append]; rfl
     refine ⟨j+1,o',⟨by omega,by rw [hsl]; exact i1,apO_tail (apO_tail i2)⟩,by omega,by simp [Ent,List.lookup,hsl],?_⟩
     simp only [hs,List.map_append,List.map_cons,List.map_nil]
     exact (Drop.tail _ _ _).trans (Drop.tail _ _ _)
    | false =>
     by_cases c5:md.what=3
     ·rw [if_pos (by simp [ripeM,c2,c3,c5])] at hs
      refine xx ?_
      refine xnew fun b10 n_b10 h_b10=>?_
      try simp only [Apart] at n_b10
      refine xx ?_
      refine xappend (t:=32) (e:=3) (sz:=1) (bytes:=8) (by kernel_rfl) tI_3 rfl rfl rfl rfl (by decide) [_,_] L o (ripeI ms now false j).length _ j2 (by simp) (Src.own List.mem_cons_self) (m:=1) (news:=[.int .i64 j]) rfl (fun u hu=>by simp at hu; subst hu; rfl) (by simp [maxLen]; omega) (by omega) ?_
      intro o' i1 i2 i3
      refine xx ?_
      have hsl:(ripeI ms now false (j+1)).length=(ripeI ms now false j).length+1:=by rw [hs,List.length_append]; rfl
      refine ⟨j+1,o',⟨by omega,by rw [hsl]; exact i1,apO_tail (apO_tail i2)⟩,by omega,by simp [Ent,List.lookup,hsl],?_⟩
      simp only [hs,List.map_append,List.map_cons,List.map_nil]
      exact (Drop.tail _ _ _).trans (Drop.tail _ _ _)
     ·by_cases c6:md.what=4
      ·rw [if_pos (by simp [ripeM,c2,c3,c5,c6])] at hs
       refine xx ?_
       refine xnew fun b10 n_b10 h_b10=>?_
       try simp only [Apart] at n_b10
       refine xx ?_
       refine xappend (t:=32) (e:=3) (sz:=1) (bytes:=8) (by kernel_rfl) tI_3 rfl rfl rfl rfl (by decide) [_,_] L o (ripeI ms now false j).length _ j2 (by simp) (Src.own List.mem_cons_self) (m:=1) (news:=[.int .i64 j]) rfl (fun u hu=>by simp at hu; subst hu; rfl) (by simp [maxLen]; omega) (by omega) ?_
       intro o' i1 i2 i3
       refine xx ?_
       have hsl:(ripeI ms now false (j+1)).length=(ripeI ms now false j).length+1:=by rw [hs,List.length_append]; rfl
       refine ⟨j+1,o',⟨by omega,by rw [hsl]; exact i1,apO_tail (apO_tail i2)⟩,by omega,by simp [Ent,List.lookup,hsl],?_⟩
       simp only [hs,List.map_append,List.map_cons,List.map_nil]
       exact (Drop.tail _ _ _).trans (Drop.tail _ _ _)
      ·rw [if_neg (by simp [ripeM,c2,c3,c5,c6]),List.append_nil] at hs
       refine xx ?_
       exact ⟨j+1,o,⟨by omega,by rw [hs]; exact j2,j3⟩,by omega,by simp [Ent,List.lookup,hs],by simp only [hs]; exact Drop.tail _ _ _⟩
   ·rw [if_neg (by simp [ripeM,c2,c3]),List.append_nil] at hs
    refine xx ?_
    exact ⟨j+1,o,⟨by omega,by rw [hs]; exact j2,j3⟩,by omega,by simp [Ent,List.lookup,hs],by simp only [hs]; exact Drop.tail _ _ _⟩
  ·rw [if_neg (by simp [ripeM,c2]),List.append_nil] at hs
   refine xx ?_
   exact ⟨j+1,o,⟨by omega,by rw [hs]; exact j2,j3⟩,by omega,by simp [Ent,List.lookup,hs],by simp only [hs]; exact Drop.tail _ _ _⟩
 ·obtain rfl:j=ms.length:=by omega
  refine xx ?_
  refine fin_pub (n:=(ripeI ms now qu ms.length).length) j2 (by simp) (by omega) j3 fun h3 le3 sl=>fin_here (hk h3 _ le3 ⟨sl,fun z hz=>?_⟩)
  have:=ripeI_mem hz
  rw [show IntKind.i64.min = -9223372036854775808 by decide,show IntKind.i64.max=9223372036854775807 by decide]
  omega
def passB (q y n a:Int):Bool:=decide (y+n≤18446744073709551615)&&(decide (a≠0)&&(decide (n<y)&&(decide (0≤q) && !decide ((y+n)*10000<q*a))))
theorem bpass_any (p:ParD) (ok:ParOk p) (y n a:Int) (hy:0≤y∧y≤18446744073709551615) (hn:0≤n∧n≤18446744073709551615) (ha:0≤a∧a≤18446744073709551615)
  (hk:K (.bool (passB p.quorum y n a)) L h):Spec Tryz.prog 271 [parV p,.agg #[.int .u64 y,.int .u64 n,.int .u64 a]] L h K:=by
 have hq : -9223372036854775808≤p.quorum∧p.quorum≤9223372036854775807:=ok.n _ (by simp [narrows])
 unfold passB at hk
 refine x_enter Tryz.func271 rfl (rs:=[_]) rfl rfl mixed (by kernel_rfl) rfl rfl ?_
 refine xx ?_
 refine xnew fun b2 n_b2 h_b2=>?_
 try simp only [Apart] at n_b2
 refine xx ?_
 refine xnew fun b3 n_b3 h_b3=>?_
 try simp only [Apart] at n_b3
 refine xx ?_
 refine madd_any _ _ hy hn ?_
 by_cases c1:y+n≤18446744073709551615
 ·rw [sumV_ok c1]
  rw [decide_eq_true c1] at hk
  refine xx ?_
  by_cases c2:a=0
  ·rw [decide_eq_false (fun e=>e c2)] at hk
   refine xx ?_
   exact fin_tail (fin_tail (fin_here hk))
  ·rw [decide_eq_true c2] at hk
   refine xx ?_
   by_cases c3:y≤n
   ·rw [decide_eq_false (by omega)] at hk
    refine xx ?_
    exact fin_tail (fin_tail (fin_here hk))
   ·rw [decide_eq_true (show n<y by omega)] at hk
    refine xx ?_
    by_cases c4:p.quorum<0
    ·rw [decide_eq_false (show ¬ 0≤p.quorum by omega)] at hk
     refine xx ?_
     exact fin_tail (fin_tail (fin_here hk))
    ·rw [decide_eq_true (show 0≤p.quorum by omega)] at hk
     refine xx ?_
     refine rless_any (y+n) 10000 p.quorum a (by omega) (by decide) (by omega) ha ?_
     obtain ⟨b,hb⟩:∃ b,b=decide ((y+n)*10000<p.quorum*a):=⟨_,rfl⟩
     rw [← hb] at hk ⊢
     refine xx ?_
     simp only [Bool.true_and] at hk
     exact fin_tail (fin_tail (fin_here hk))
 ·rw [sumV_no c1]
  rw [decide_eq_false c1] at hk
  refine xx ?_
  exact fin_tail (fin_tail (fin_here hk))
theorem bc1_any (i:Int) (hk:K (.bool true) L h):Spec Tryz.prog 336 [.int .i64 i] L h K:=by
 refine x_enter Tryz.func336 rfl (rs:=[_]) rfl rfl mixed (by kernel_rfl) rfl rfl ?_
 refine xx ?_
 exact fin_here hk
theorem bw1_any {ks:List Int} (kv:Value) (hkv:Ints h .u8 kv ks) (i:Nat) (hi:i≤1000) (b:Nat) (hb:(⟨b,36,[kv],1⟩:Blk)∈L) (hk:K (.bool (getB ks i)) L h):Spec Tryz.prog 364 [.int .i64 i,.pointer (some ⟨b,0,none⟩)] L h K:=by
 have hkv0:=hkv
 obtain ⟨ka,kc,rfl,_⟩:=hkv.open
 refine Spec.frame1 hb ?_ hk
 refine x_enterA Tryz.func364 rfl (rs:=[_]) rfl rfl mixed (by kernel_rfl) rfl rfl fun ap nd=>?_
 have hn:h b=noC:=ap.1
 clear ap nd
 refine xx ?_
 refine get_any (bs:=ks) _ i hkv0 (by omega) ?_
 refine xx ?_
 exact fin_here ⟨rfl,rfl,rfl⟩
theorem bstk0_any {l:List MemD} (v:Value) (hd0:Recs memC 6 h v l) (hn:l.length≤1000) (hm:∀ x∈l,MemOk x)
  (hk:∀ h' r,PH.le h h'→Ints h' .u64 r ((cP l l.length).map (effI l))→K r L h'):Spec Tryz.prog 335 [v,.func (.func 336) #[] #[]] L h K:=by
 obtain ⟨a,c,rfl,hc,hl,_,hd⟩:=hd0.open
 refine x_enter Tryz.func335 rfl (rs:=[_]) rfl rfl mixed (by kernel_rfl) rfl rfl ?_
 refine xx ?_
 refine xloop (γ:=Nat×Option (Nat×Nat)) (0,none) (fun s=>s.1≤l.length∧okO s.2 (cP l s.1).length∧apO s.2 L h)
  (fun s=>[(10,.int .i64 s.1),(9,.int .i64 l.length),(8,.slice a l.length c),(5,ovs s.2 (cP l s.1).length),(1,.func (.func 336) #[] #[])])
  (fun s=>oent 22 1 s.2 (efC l (cP l s.1)) L) (fun _=>h) (fun s=>l.length-s.1) ?_ ?_ ?_ ?_
 ·exact ⟨Nat.zero_le _,rfl,trivial⟩
 ·simp [Ent,List.lookup,xEnv,ovs,cP]
 ·exact Drop.refl _ _
 rintro ⟨k,o1⟩ ⟨i1,i2,i4⟩
 simp only at i1 i2 i4 ⊢
 by_cases c1:k<l.length
 ·have hcn:(cP l k).length≤k:=cP_len l k
  have hs1:=cP_succ l k
  simp -dsimp -implicitDefEqProofs (disch:=first|with_reducible assumption|omega) [go_sem,↓idxR zeroM (by decide) hd,memC]
  refine xnew fun b7 n_b7 h_b7=>?_
  try simp only [Apart] at n_b7
  have n7:=apart_oent n_b7
  simp -dsimp -implicitDefEqProofs (disch:=first|with_reducible assumption|omega) [go_sem,memC]
  refine counts_any (gr zeroM l k) ?_
  by_cases c2:cntB (gr zeroM l k)=true
  ·have c2':(gr zeroM l k).status=2∨(gr zeroM l k).status=3:=by simpa [cntB] using c2
   rw [decide_eq_true c2']
   rw [if_pos c2] at hs1
   simp -dsimp -implicitDefEqProofs (disch:=first|with_reducible assumption|omega) [go_sem,memC]
   refine bc1_any (k:Int) ?_
   simp -dsimp -implicitDefEqProofs (disch:=first|with_reducible assumption|omega) [go_sem,memC]
   refine xnew fun b8 n_b8 h_b8=>?_
   try simp only [Apart] at n_b8
   refine xx ?_
   refine xappend (t:=25) (e:=22) (sz:=1) (bytes:=8) (by kernel_rfl) tI_22 rfl rfl rfl rfl (by decide) [_,_] _ o1 (cP l k).length (efC l (cP l k)) i2 (efC_len _ _) (Src.own List.mem_cons_self) (m:=1) (news:=[.int .u64 (gr zeroM l k).eff]) rfl (by intro u hu; simp only [List.mem_singleton] at hu; subst hu; rfl) (by simp [maxLen]; omega) (by omega) ?_
   intro o1' j1 j2 j3
   have j4:=apO_tail (apO_tail j2)
   have e1:efC l (cP l k)++[.int .u64 (gr zeroM l k).eff]=efC l (cP l (k+1)):=by rw [hs1,efC_snoc]; rfl
   have e2:(cP l k).length+1=(cP l (k+1)).length:=by rw [hs1]; simp
   rw [e2] at j1 ⊢
   rw [e1]
   refine xx ?_
   exact ⟨k+1,o1',⟨by omega,j1,j4⟩,by omega,by simp [Ent,List.lookup],(Drop.tail _ _ _).trans (Drop.tail _ _ _)⟩
  ·have c2':¬ ((gr zeroM l k).status=2∨(gr zeroM l k).status=3):=by simpa [cntB] using c2
   rw [decide_eq_false c2']
   rw [if_neg c2] at hs1
   refine xx ?_
   exact ⟨k+1,o1,⟨by omega,by rw [hs1]; exact i2,i4⟩,by omega,by simp [Ent,List.lookup,hs1],by rw [hs1]; exact Drop.tail _ _ _⟩
 ·obtain rfl:k=l.length:=by omega
  have hcn:(cP l l.length).length≤l.length:=cP_len l l.length
  refine xx ?_
  refine fin_pub (n:=(cP l l.length).length) i2 (efC_len _ _) (by omega) i4 fun h1 le1 sl=>fin_here (hk h1 _ le1 (ef_ints hm sl))
theorem bstk1_any {l:List MemD} {ks:List Int} (v kv:Value) (hd0:Recs memC 6 h v l) (hn:l.length≤1000) (hm:∀ x∈l,MemOk x) (hkv:Ints h .u8 kv ks) (b:Nat) (hb:(⟨b,36,[kv],1⟩:Blk)∈L)
  (hk:∀ h' r,PH.le h h'→Ints h' .u64 r ((thI l ks l.length).map (effI l))→K r L h'):Spec Tryz.prog 335 [v,.func (.func 364) #[] #[.pointer (some ⟨b,0,none⟩)]] L h K:=by
 obtain ⟨a,c,rfl,hc,hl,_,hd⟩:=hd0.open
 refine x_enter Tryz.func335 rfl (rs:=[_]) rfl rfl mixed (by kernel_rfl) rfl rfl ?_
 refine xx ?_
 refine xloop (γ:=Nat×Option (Nat×Nat)) (0,none) (fun s=>s.1≤l.length∧okO s.2 (thI l ks s.1).length∧apO s.2 L h)
  (fun s=>[(10,.int .i64 s.1),(9,.int .i64 l.length),(8,.slice a l.length c),(5,ovs s.2 (thI l ks s.1).length),(1,.func (.func 364) #[] #[.pointer (some ⟨b,0,none⟩)])])
  (fun s=>oent 22 1 s.2 (efC l (thI l ks s.1)) L) (fun _=>h) (fun s=>l.length-s.1) ?_ ?_ ?_ ?_
 ·exact ⟨Nat.zero_le _,rfl,trivial⟩
 ·simp [Ent,List.lookup,xEnv,ovs,cP,thI]
 ·exact Drop.refl _ _
 rintro ⟨k,o1⟩ ⟨i1,i2,i4⟩
 simp only at i1 i2 i4 ⊢
 have hbo:∀ (x y:List Blk),(⟨b,36,[kv],1⟩:Blk)∈x++oent 22 1 o1 (efC l (thI l ks k)) L:=fun x y=>by
  refine List.mem_append_right _ ?_
  cases o1 with
  | none=>exact hb
  | some p=>exact List.mem_cons_of_mem _ hb
 by_cases c1:k<l.length
 ·have hcn:(thI l ks k).length≤k:=thI_len l ks k
  have hs1:=thI_succ l ks k
  simp -dsimp -implicitDefEqProofs (disch:=first|with_reducible assumption|omega) [go_sem,↓idxR zeroM (by decide) hd,memC]
  refine xnew fun b7 n_b7 h_b7=>?_
  try simp only [Apart] at n_b7
  have n7:=apart_oent n_b7
  simp -dsimp -implicitDefEqProofs (disch:=first|with_reducible assumption|omega) [go_sem,memC]
  refine counts_any (gr zeroM l k) ?_
  by_cases c2:cntB (gr zeroM l k)=true
  ·have c2':(gr zeroM l k).status=2∨(gr zeroM l k).status=3:=by simpa [cntB] using c2
   rw [decide_eq_true c2']
   rw [c2,Bool.true_and] at hs1
   simp -dsimp -implicitDefEqProofs (disch:=first|with_reducible assumption|omega) [go_sem,memC]
   refine bw1_any kv hkv k (by omega) b (hbo [_] []) ?_
   by_cases c3:getB ks k=true
   ·rw [if_pos c3] at hs1
    rw [getBk c3]
    simp -dsimp -implicitDefEqProofs (disch:=first|with_reducible assumption|omega) [go_sem,memC]
    refine xnew fun b8 n_b8 h_b8=>?_
    try simp only [Apart] at n_b8
    refine xx ?_
    refine xappend (t:=25) (e:=22) (sz:=1) (bytes:=8) (by kernel_rfl) tI_22 rfl rfl rfl rfl (by decide) [_,_] _ o1 (thI l ks k).length (efC l (thI l ks k)) i2 (efC_len _ _) (Src.own List.mem_cons_self) (m:=1) (news:=[.int .u64 (gr zeroM l k).eff]) rfl (by intro u hu; simp only [List.mem_singleton] at hu; subst hu; rfl) (by simp [maxLen]; omega) (by omega) ?_
    intro o1' j1 j2 j3
    have j4:=apO_tail (apO_tail j2)
    have e1:efC l (thI l ks k)++[.int .u64 (gr zeroM l k).eff]=efC l (thI l ks (k+1)):=by rw [hs1,efC_snoc]; rfl
    have e2:(thI l ks k).length+1=(thI l ks (k+1)).length:=by rw [hs1]; simp
    rw [e2] at j1 ⊢
    rw [e1]
    refine xx ?_
    exact ⟨k+1,o1',⟨by omega,j1,j4⟩,by omega,by simp [Ent,List.lookup],(Drop.tail _ _ _).trans (Drop.tail _ _ _)⟩
   ·have c3':getB ks k=false:=by simpa using c3
    rw [if_neg c3] at hs1
    rw [getBk c3']
    refine xx ?_
    exact ⟨k+1,o1,⟨by omega,by rw [hs1]; exact i2,i4⟩,by omega,by simp [Ent,List.lookup,hs1],by rw [hs1]; exact Drop.tail _ _ _⟩
  ·have c2':¬ ((gr zeroM l k).status=2∨(gr zeroM l k).status=3):=by simpa [cntB] using c2
   rw [decide_eq_false c2']
   rw [show cntB (gr zeroM l k)=false by simpa using c2,Bool.false_and] at hs1
   simp only [Bool.false_eq_true,if_false] at hs1
   refine xx ?_
   exact ⟨k+1,o1,⟨by omega,by rw [hs1]; exact i2,i4⟩,by omega,by simp [Ent,List.lookup,hs1],by rw [hs1]; exact Drop.tail _ _ _⟩
 ·obtain rfl:k=l.length:=by omega
  have hcn:(thI l ks l.length).length≤l.length:=thI_len l ks l.length
  refine xx ?_
  refine fin_pub (n:=(thI l ks l.length).length) i2 (efC_len _ _) (by omega) i4 fun h1 le1 sl=>fin_here (hk h1 _ le1 (ef_ints hm sl))
theorem bweigh_any {l:List MemD} {ks:List Int} (v kv:Value) (hd0:Recs memC 6 h v l) (hn:l.length≤1000) (hm:∀ x∈l,MemOk x) (hkv:Ints h .u8 kv ks)
  (hk:∀ h',PH.le h h'→K (sumV (preL l ks)) L h'):Spec Tryz.prog 337 [v,kv] L h K:=by
 have hkv0:=hkv
 obtain ⟨ka,kc,rfl,_⟩:=hkv.open
 refine x_enter Tryz.func337 rfl (rs:=[_,_]) rfl rfl mixed (by kernel_rfl) rfl rfl ?_
 refine xx ?_
 refine xnew fun b3 n_b3 h_b3=>?_
 try simp only [Apart] at n_b3
 refine xx ?_
 refine bstk1_any v _ hd0 hn hm hkv0 b3 List.mem_cons_self fun h1 r le1 it=>?_
 obtain ⟨ra,rc,rfl,_⟩:=it.open
 rw [List.length_map] at it
 simp only [List.length_map]
 refine xx ?_
 refine msum_any _ it ?_
 have hk:=hk h1 le1
 rw [show tot ((thI l ks l.length).map (effI l))=preL l ks from rfl]
 by_cases c:preL l ks≤18446744073709551615
 ·rw [sumV_ok c] at hk ⊢
  refine xx ?_
  exact fin_tail (fin_here hk)
 ·rw [sumV_no c] at hk ⊢
  refine xx ?_
  exact fin_tail (fin_here hk)
theorem bcount_any {l:List MemD} {ys ns:List Int} (v yv nv:Value) (hd0:Recs memC 6 h v l) (hn:l.length≤1000) (hm:∀ x∈l,MemOk x) (hy:Ints h .u8 yv ys) (hno:Ints h .u8 nv ns) (hA:actL l≤18446744073709551615)
  (hk:∀ h',PH.le h h'→K (.tuple #[.agg #[.int .u64 (preL l ys),.int .u64 (preL l ns),.int .u64 (actL l)],.int .i64 0]) L h'):Spec Tryz.prog 270 [v,yv,nv] L h K:=by
 have p1:=pre_le (ks:=ys) hm
 have p2:=pre_le (ks:=ns) hm
 refine x_enter Tryz.func270 rfl (rs:=[_,_]) rfl rfl mixed (by kernel_rfl) rfl rfl ?_
 refine xx ?_
 refine xnew fun b6 n_b6 h_b6=>?_
 try simp only [Apart] at n_b6
 refine xx ?_
 refine Spec.ap (bstk0_any v hd0 hn hm fun h1 r le1 it ap=>?_)
 simp only [Ap] at ap
 obtain ⟨a1,_⟩:=ap
 obtain ⟨ra,rc,rfl,_⟩:=it.open
 rw [List.length_map] at it
 simp only [List.length_map]
 refine xx ?_
 refine msum_any _ it ?_
 rw [show tot ((cP l l.length).map (effI l))=actL l from rfl,sumV_ok hA]
 refine xx ?_
 refine Spec.ap (bweigh_any v yv (hd0.up le1) hn hm (hy.up le1) fun h2 le2 ap=>?_)
 simp only [Ap] at ap
 obtain ⟨a2,_⟩:=ap
 rw [sumV_ok (show preL l ys≤18446744073709551615 by omega)]
 have le12:=le1.trans le2
 refine xx ?_
 refine Spec.ap (bweigh_any v nv (hd0.up le12) hn hm (hno.up le12) fun h3 le3 ap=>?_)
 simp only [Ap] at ap
 obtain ⟨a3,_⟩:=ap
 rw [sumV_ok (show preL l ns≤18446744073709551615 by omega)]
 refine xx ?_
 exact fin_tail (fin_here (hk h3 (le12.trans le3)))
open Go.RowKit
section
variable {P:Program}
def unpub (h:PH) (b:Nat):PH:=fun b' o=>if b'=b then none else h b' o
theorem unpub_le {h h2:PH} {b:Nat} (hb:h b=noC) (le:PH.le h h2):PH.le h (unpub h2 b):=by
 intro b' o v hv
 simp only [unpub]
 split
 ·rename_i e; rw [e,hb] at hv; cases hv
 ·exact le b' o v hv
theorem unpub_noC (h:PH) (b:Nat):unpub h b b=noC:=by
 funext o
 simp [unpub,noC]
theorem unpub_ne {h:PH} {b c:Nat} (hc:h c=noC):unpub h b c=noC:=by
 funext o
 simp only [unpub]
 split
 ·rfl
 ·exact congrFun hc o
theorem Spec.lend {f:FuncId} {args:List Value} {L:Own} {h:PH} {K:PK} {b t cap:Nat} {cs:List Value} (heT:t≠4294967295)
  (hs:Spec P f args L (pub h b cs) fun v L' h'=>K v (⟨b,t,cs,cap⟩::L') (unpub h' b)):Spec P f args (⟨b,t,cs,cap⟩::L) h K:=by
 refine ⟨trivial,fun W hg=>?_⟩
 obtain ⟨g1,_⟩:=pub_drop b t cap cs L h heT W hg
 have hnd:=hg.nodup
 simp only [List.map_cons,List.nodup_cons] at hnd
 have hbW:b<W.heap.size:=own_lt hg (e:=⟨b,t,cs,cap⟩) List.mem_cons_self
 refine (hs.2 W g1).mono fun e W' hh=>?_
 obtain ⟨v,L2,h2,e1,hk,g2,kp,hfr⟩:=hh
 have hb2:∀ e∈L2,e.b≠b:=fun e he hb=>by
  rcases hfr e he with hm | hm
  ·exact hnd.1 (by rw [← hb]; exact hm)
  ·omega
 refine ⟨v,_,_,e1,hk,⟨fun b' o v hv=>?_,fun e he=>?_,?_,fun e he=>?_⟩,⟨kp.os,kp.tape,kp.output,kp.size,fun k hk' hM=>kp.block k hk' fun hm=>hM ?_⟩,fun e he=>?_⟩
 ·simp only [unpub] at hv
  split at hv
  ·cases hv
  ·exact g2.sub _ _ _ hv
 ·rcases List.mem_cons.1 he with rfl | he
  ·show BlkIs _ W'.heap[b]?
   rw [kp.block b hbW hnd.1]
   exact hg.own _ List.mem_cons_self
  ·exact g2.own e he
 ·simp only [List.map_cons,List.nodup_cons]
  refine ⟨fun hm=>?_,g2.nodup⟩
  obtain ⟨e,he,hb⟩:=List.mem_map.1 hm
  exact hb2 e he hb
 ·rcases List.mem_cons.1 he with rfl | he
  ·exact unpub_noC h2 b
  ·exact unpub_ne (g2.apart e he)
 ·simp only [List.map_cons]
  exact List.mem_cons_of_mem _ hm
 ·rcases List.mem_cons.1 he with rfl | he
  ·exact Or.inl (by simp)
  ·rcases hfr e he with hm | hm
   ·exact Or.inl (by simp only [List.map_cons]; exact List.mem_cons_of_mem _ hm)
   ·exact Or.inr hm
def unpubO (h:PH):Option (Nat×Nat)→PH
 | none=>h
 | some p=>unpub h p.1
theorem Spec.lend_o {f:FuncId} {args:List Value} {L:Own} {h:PH} {K:PK} {e sz n:Nat} {o:Option (Nat×Nat)} {cs:List Value} (ho:okO o n) (hl:cs.length=n*sz) (hn:n≤9223372036854775807)
  (hs:Sl (pubO h o cs) (ovs o n) n sz cs→Spec P f args L (pubO h o cs) fun v L' h'=>K v (oent e sz o cs L') (unpubO h' o)) (heT:e≠4294967295:=by first | decide | omega):Spec P f args (oent e sz o cs L) h K:=by
 have hs:=hs (pub_sl ho hl hn)
 cases o with
 | none=>exact hs
 | some p=>exact Spec.lend heT hs
end
open Go.RowKit Go.Proofs Go.Bl
variable {L:Own} {h:PH} {K:PK}
theorem unpubO_le {o:Option (Nat×Nat)} {h h2:PH} {cs:List Value} (ha:apO o L h) (le:PH.le (pubO h o cs) h2):PH.le h (unpubO h2 o):=by
 have le2:=(pub_le_o ha cs).trans le
 cases o with
 | none=>exact le2
 | some p=>exact unpub_le ha.2 le2
theorem mstakesO_any {l:List MemD} {ks:List Int} (om:Option (Nat×Nat)) (ho:okO om l.length) (ha:apO om L h) (kv:Value) (hm:∀ x∈l,MemOk x) (hkv:Ints h .u8 kv ks) (hn:l.length≤1000) (hA:actL l≤18446744073709551615)
  (hk:∀ h',PH.le h h'→K (.tuple #[.int .u64 (preL l ks),.int .u64 (actL l),.int .i64 0]) (oent 73 6 om (l.flatMap memC) L) h') :
  Spec Tryz.prog 136 [ovs om l.length,kv] (oent 73 6 om (l.flatMap memC) L) h K :=
 Spec.lend_o ho (flatG_len memC_len l) (by omega) fun sl=>mstakes_any _ kv (Recs.pub memC_len sl) hm (hkv.up (pub_le_o ha _)) hn hA fun h' le=>hk _ (unpubO_le ha le)
theorem bcountO_any {l:List MemD} {ys ns:List Int} (om:Option (Nat×Nat)) (ho:okO om l.length) (ha:apO om L h) (yv nv:Value) (hn:l.length≤1000) (hm:∀ x∈l,MemOk x) (hy:Ints h .u8 yv ys) (hno:Ints h .u8 nv ns) (hA:actL l≤18446744073709551615)
  (hk:∀ h',PH.le h h'→K (.tuple #[.agg #[.int .u64 (preL l ys),.int .u64 (preL l ns),.int .u64 (actL l)],.int .i64 0]) (oent 73 6 om (l.flatMap memC) L) h') :
  Spec Tryz.prog 270 [ovs om l.length,yv,nv] (oent 73 6 om (l.flatMap memC) L) h K :=
 Spec.lend_o ho (flatG_len memC_len l) (by omega) fun sl=>bcount_any _ yv nv (Recs.pub memC_len sl) hn hm (hy.up (pub_le_o ha _)) (hno.up (pub_le_o ha _)) hA fun h' le=>hk _ (unpubO_le ha le)
theorem Spec.entr {P:Program} {f:FuncId} {args:List Value} {L:Own} {h:PH} {K:PK} (hs:Ap L h→Nd L→Spec P f args L h K):Spec P f args L h K :=
 ⟨trivial,fun W hg=>(hs (Ap.of hg.apart) (Nd.of hg.nodup)).2 W hg⟩
theorem nd_here {e sz:Nat} {o:Option (Nat×Nat)} {xs:List Value} {x:Blk} {L:Own} (nd:Nd (oent e sz o xs (x::L))):apB o x.b∧Nd (oent e sz o xs L):=by
 cases o with
 | none=>exact ⟨trivial,nd.2⟩
 | some p=>exact ⟨Ne.symm nd.1.1,nd.1.2,nd.2.2⟩
theorem oent_swap {e sz e2 sz2:Nat} (o o2:Option (Nat×Nat)) (xs ys:List Value) (L:Own):(oent e sz o xs (oent e2 sz2 o2 ys L)).Perm (oent e2 sz2 o2 ys (oent e sz o xs L)):=by
 cases o with
 | none=>exact List.Perm.refl _
 | some p=>cases o2 with
  | none=>exact List.Perm.refl _
  | some p2=>exact List.Perm.swap _ _ _
theorem ap_here {e sz:Nat} {o:Option (Nat×Nat)} {xs:List Value} {L:Own} {h:PH} (ap:Ap (oent e sz o xs L) h):apO o [] h:=by
 cases o with
 | none=>trivial
 | some p=>exact ⟨trivial,ap.1⟩
theorem apart_here {e sz b:Nat} {o:Option (Nat×Nat)} {xs:List Value} {L:Own} (ha:Apart b (oent e sz o xs L)):apB o b:=by
 cases o with
 | none=>trivial
 | some p=>exact ha.1
theorem fits_be {v:SV} {s:StD} (hs:IsSt h v s) (hf:fitsS s=true):BeOk s.members s.purses∧parR s.par=true∧(0≤s.ep∧s.ep≤1073741824)∧(s.purses.length≤64∧s.members.length≤128)∧tot s.purses+tot (s.members.map MemD.bal)+tot (s.dues.map DueD.amt)≤4611686018427387904:=by
 simp only [fitsS,Bool.and_eq_true] at hf
 obtain ⟨⟨⟨⟨⟨⟨⟨⟨f1,f2⟩,f3⟩,f4⟩,f5⟩,f6⟩,f7⟩,f8⟩,f9⟩:=hf
 simp only [membersB,Bool.and_eq_true,decide_eq_true_eq,List.all_eq_true] at f5
 simp only [pursesB,Bool.and_eq_true,decide_eq_true_eq,List.all_eq_true] at f4
 simp only [holdsB,Bool.and_eq_true,decide_eq_true_eq] at f9
 rw [wi_iff] at f2
 have f41:=wi_iff.1 f4.1
 have p0:=hs.parts
 have u1:=hs.ok.u s.burn (by simp)
 have u2:=hs.ok.u s.treas (by simp)
 have ht:tot s.purses+tot (s.members.map MemD.bal)+tot (s.dues.map DueD.amt)≤4611686018427387904:=by
  have e:=f9.2
  simp only [sAll,sStk,sPur,sPool,sDue] at e p0
  omega
 have p4:0≤tot (s.dues.map DueD.amt):=p0.2.2.2
 refine ⟨⟨hs.mo,fun x hx=>?_,fun i=>(hs.p.word i).1,by omega⟩,f1,f2,⟨by omega,f5.1.1.1⟩,ht⟩
 have:=(f5.1.1.2 x hx).2
 rw [acctB,wi_iff] at this
 omega
end Go.X
