/- Lemmas and contracts for a statement about the given program. Conditions: as each says. -/
import Derived.Test.YtmmfajokfdaokaaGreatQ17
set_option linter.unusedVariables false
set_option linter.unusedSimpArgs false
set_option maxHeartbeats 12800000
set_option maxRecDepth 20000
namespace Go.X
open Go.RowKit Go.Proofs Go.Bl
variable {L:Own} {h:PH} {K:PK}
def simpP:ParD where
 inc:=10
 maxEff:=30
 floor:=10
 cap:=40
 up:=10
 down:=5
 bias:=4
 quot:=100
 biasEm:=8
 quotEm:=50
 recover:=2
 scoreCap:=100
 rate:=1048576
 bond:=1
 delay:=2
 streak:=4
 boost:=100
 absent:=100
 burn:=5000
 churn:=2
 wait:=2
 poll:=2
 enact:=1
 quorum:=3000
def simpG:GenD:=⟨simpP,1073741824,[500,200],[⟨0,25⟩,⟨1,40⟩]⟩
theorem simpP_ok:ParOk simpP:=by
 constructor
 ·intro z hz
  simp only [wides,simpP,List.mem_cons,List.not_mem_nil,or_false] at hz
  omega
 ·intro z hz
  simp only [narrows,simpP,List.mem_cons,List.not_mem_nil,or_false] at hz
  omega
theorem simple07_any (hk:K (parV simpP) L h):Spec Tryz.prog 113 [] L h K:=by
 refine x_enter Tryz.func113 rfl (rs:=[_]) rfl rfl mixed (by kernel_rfl) rfl rfl ?_
 refine xx ?_
 refine xnew fun b0 n_b0 h_b0=>?_
 try simp only [Apart] at n_b0
 refine xx ?_
 exact fin_tail (fin_here hk)
theorem simple24_any (hk:∀ h' pa pc fa fc,PH.le h h'→IsGen h' (.slice pa 2 pc) (.slice fa 2 fc) simpG→K (genV simpG (.slice pa 2 pc) (.slice fa 2 fc)) L h'):Spec Tryz.prog 35 [] L h K:=by
 refine x_enter Tryz.func35 rfl (rs:=[_]) rfl rfl mixed (by kernel_rfl) rfl rfl ?_
 refine xx ?_
 refine xnew fun b0 n_b0 h_b0=>?_
 try simp only [Apart] at n_b0
 refine xx ?_
 refine simple07_any ?_
 refine xx ?_
 refine xnew fun b1 n_b1 h_b1=>?_
 try simp only [Apart] at n_b1
 refine xx ?_
 refine xnew fun b2 n_b2 h_b2=>?_
 try simp only [Apart] at n_b2
 refine xx ?_
 have s1:Sl (pub h b1 [.int .u64 500,.int .u64 200]) (.slice (some ⟨b1,0,none⟩) 2 2) 2 1 [.int .u64 500,.int .u64 200]:=pub_sl (o:=some (b1,2)) ⟨Nat.le_refl _,by simp [maxLen]⟩ rfl (by decide)
 have s2:Sl (pub (pub h b1 [.int .u64 500,.int .u64 200]) b2 [.int .i64 0,.int .u64 25,.int .i64 1,.int .u64 40]) (.slice (some ⟨b2,0,none⟩) 2 2) 2 2 [.int .i64 0,.int .u64 25,.int .i64 1,.int .u64 40]:=pub_sl (o:=some (b2,2)) ⟨Nat.le_refl _,by simp [maxLen]⟩ rfl (by decide)
 have n2:(pub h b1 [.int .u64 500,.int .u64 200]) b2=noC:=pubO_noC (o:=some (b1,2)) (by first | exact n_b2.1 | exact Ne.symm n_b2.1) h_b2
 have l1:=pub_le (h:=h) h_b1 [.int .u64 500,.int .u64 200]
 have l2:=pub_le n2 [.int .i64 0,.int .u64 25,.int .i64 1,.int .u64 40]
 refine ⟨L,_,?_,hk _ _ _ _ _ (l1.trans l2) ⟨simpP_ok,by decide,⟨s1.up l2,fun z hz=>?_⟩,⟨fouC_len,s2⟩,fun x hx=>?_⟩⟩
 ·first
  | exact (Drop.perm _ (List.Perm.swap _ _ _)).trans ((pub_drop_at b1 _ _ _ [] _ h (by decide)).trans ((pub_drop_at b2 _ _ _ [] _ _ (by decide)).trans (Drop.tail _ _ _)))
  | exact (pub_drop_at b1 _ _ _ [_] _ h (by decide)).trans ((pub_drop_at b2 _ _ _ [] _ _ (by decide)).trans (Drop.tail _ _ _))
 ·simp only [simpG,List.mem_cons,List.not_mem_nil,or_false] at hz
  rw [show IntKind.u64.min=0 by decide,show IntKind.u64.max=18446744073709551615 by decide]
  omega
 ·simp only [simpG,List.mem_cons,List.not_mem_nil,or_false] at hx
  rcases hx with rfl | rfl
  ·exact ⟨by decide,by decide⟩
  ·exact ⟨by decide,by decide⟩
def simpS:StD:=⟨simpP,1073741824,765,0,0,0,0,0,false,[500,200],[⟨25,20,0,0,0,2⟩,⟨40,30,0,0,1,2⟩],[],[],[],[],[],List.replicate 16 0,[]⟩
theorem simp_newB:newB simpG=true:=by decide +kernel
theorem simp_new:newR simpG=simpS:=by
 rw [newR,simp_newB]
 show newS simpG=simpS
 have e1:tot (genAll simpG)=765:=by decide +kernel
 have e2:wholeP simpP 25=20:=by decide +kernel
 have e3:wholeP simpP 40=30:=by decide +kernel
 rw [newS,e1]
 simp only [simpS,simpG,List.map_cons,List.map_nil,memF,e2,e3]
theorem simpS_few:FewS simpS:=by
 constructor<;>decide
theorem simpS_fits:fitsS simpS=true:=by decide +kernel
theorem newsimp_any {pv fv:Value} (hg:IsGen h pv fv simpG) (hk:∀ h' u,PH.le h h'→IsSt h' u simpS→K (.tuple #[stV simpS u,.int .i64 0]) L h'):Spec Tryz.prog 11 [genV simpG pv fv] L h K:=by
 have e:=simp_new
 refine new_any pv fv hg (by decide) fun h' u le hs=>?_
 rw [e,simp_newB] at *
 exact hk h' u le hs
end Go.X
