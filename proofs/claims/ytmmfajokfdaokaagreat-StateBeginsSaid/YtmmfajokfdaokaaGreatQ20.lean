/- Lemmas and contracts for a statement about the given program. Conditions: as each says. -/
import Derived.Test.YtmmfajokfdaokaaGreatQ18
import Derived.Test.YtmmfajokfdaokaaGreatQ19
set_option linter.unusedVariables false
set_option linter.unusedSimpArgs false
set_option maxHeartbeats 12800000
set_option maxRecDepth 20000
namespace Go.X
open Go.RowKit Go.Proofs Go.Bl
variable {L:Own} {h:PH} {K:PK}
theorem oent_split {e sz:Nat} (o:Option (Nat×Nat)) (xs:List Value) (M:Own):oent e sz o xs M=oent e sz o xs []++M:=by
 cases o<;>rfl
theorem apO_oent {e sz:Nat} {o o2:Option (Nat×Nat)} {xs:List Value} {M:Own} {h:PH} (ha:apO o (oent e sz o2 xs M) h):apO o M h:=by
 cases o with
 | none=>trivial
 | some p=>exact ⟨apart_oent ha.1,ha.2⟩
theorem apO_swap {e sz e2 sz2:Nat} {o1 o2:Option (Nat×Nat)} {cs1 cs2:List Value} {M:Own} {h:PH} (h1:apO o1 M h) (h2:apO o2 (oent e sz o1 cs1 []++M) h):apO o1 (oent e2 sz2 o2 cs2 M) h∧apO o2 M h:=by
 cases o1 with
 | none=>exact ⟨trivial,h2⟩
 | some p =>
  cases o2 with
  | none=>exact ⟨h1,trivial⟩
  | some q =>
   have:p.1≠q.1:=h2.1.1
   exact ⟨⟨⟨fun e=>this e.symm,h1.1⟩,h1.2⟩,⟨h2.1.2,h2.2⟩⟩
theorem clone64_own {xs:List Int} (v:Value) (hx:Ints h .u64 v xs) (hl:xs.length≤100000) (hk:∀ o,okO o xs.length→apO o L h→K (ovs o xs.length) (oent 22 1 o (xs.map (.int .u64)) L) h):Spec Tryz.prog 38 [v] L h K:=by
 have ox:=hx.open
 obtain ⟨a,ca,rfl,hna,hca,h0,hcx⟩:=ox
 refine x_enter Tryz.func38 rfl (rs:=[_]) rfl rfl mixed (by kernel_rfl) rfl rfl ?_
 refine xx ?_
 cases ha:a.isNone with
 | true =>
  have ha':a=none:=by simpa using ha
  subst ha'
  have hl0:xs.length=0:=by have:=h0 rfl; omega
  have hx':xs=[]:=List.eq_nil_of_length_eq_zero hl0
  subst hx'
  refine xx ?_
  exact fin_here (hk none rfl trivial)
 | false =>
  refine xx ?_
  refine xnew fun b1 n_b1 h_b1=>?_
  try simp only [Apart] at n_b1
  refine xx ?_
  refine xappend (t:=25) (e:=22) (sz:=1) (bytes:=8) (z:=[.int .u64 0]) (by kernel_rfl) tI_22 rfl rfl rfl rfl (by decide) [] L (some (b1,0)) 0 [] ⟨Nat.le_refl _,Nat.zero_le _⟩ rfl (Src.known hx.1) (by simp) (ints_one _ _) (by simp [maxLen]; omega) (by omega) ?_
  intro o' j1 j2 j3
  simp only [Nat.zero_add,List.nil_append] at j1 j2 ⊢
  refine xx ?_
  exact fin_here (hk o' j1 j2)
theorem gwhole_any (p:ParD) (ok:ParOk p) (b:Int) (hb:0≤b∧b≤18446744073709551615) (hk:K (.int .u64 (if parR p then wholeP p b else 0)) L h):Spec Tryz.prog 118 [parV p,.int .u64 b] L h K:=by
 refine x_enter Tryz.func118 rfl (rs:=[_]) rfl rfl mixed (by kernel_rfl) rfl rfl ?_
 refine xx ?_
 refine xnew fun b1 n_b1 h_b1=>?_
 try simp only [Apart] at n_b1
 refine xx ?_
 refine scaled_any p ok ?_
 refine xx ?_
 refine xnew fun b2 n_b2 h_b2=>?_
 try simp only [Apart] at n_b2
 refine xx ?_
 cases hr:parR p with
 | false =>
  rw [hr] at hk
  refine xx ?_
  exact fin_tail (fin_tail (fin_here hk))
 | true =>
  rw [hr] at hk
  refine xx ?_
  refine whole_any p b (inc_pos hr) hb ?_
  refine xx ?_
  exact fin_tail (fin_tail (fin_here hk))
structure FouD where
 own:Int
 bal:Int
def zeroFou:FouD:=⟨0,0⟩
def fouC (f:FouD):List Value:=[.int .i64 f.own,.int .u64 f.bal]
theorem fouC_len (f:FouD):(fouC f).length=2:=rfl
structure FouOk (f:FouD):Prop where
 o : -9223372036854775808≤f.own∧f.own≤9223372036854775807
 b:0≤f.bal∧f.bal≤18446744073709551615
structure GenD where
 par:ParD
 most:Int
 purses:List Int
 founders:List FouD
abbrev genC (g:GenD) (pv fv:Value):List Value:=[.int .u64 g.par.inc,.int .u64 g.par.maxEff,.int .u64 g.par.floor,.int .u64 g.par.cap,.int .u64 g.par.up,.int .u64 g.par.down,.int .u64 g.par.bias,.int .u64 g.par.quot,.int .u64 g.par.biasEm,.int .u64 g.par.quotEm,.int .u64 g.par.recover,.int .u64 g.par.scoreCap,.int .u64 g.par.rate,.int .u64 g.par.bond,.int .i64 g.par.delay,.int .i64 g.par.streak,.int .i64 g.par.boost,.int .i64 g.par.absent,.int .i64 g.par.burn,.int .i64 g.par.churn,.int .i64 g.par.wait,.int .i64 g.par.poll,.int .i64 g.par.enact,.int .i64 g.par.quorum,.int .u64 g.most,pv,fv]
abbrev genV (g:GenD) (pv fv:Value):Value := .agg #[.int .u64 g.par.inc,.int .u64 g.par.maxEff,.int .u64 g.par.floor,.int .u64 g.par.cap,.int .u64 g.par.up,.int .u64 g.par.down,.int .u64 g.par.bias,.int .u64 g.par.quot,.int .u64 g.par.biasEm,.int .u64 g.par.quotEm,.int .u64 g.par.recover,.int .u64 g.par.scoreCap,.int .u64 g.par.rate,.int .u64 g.par.bond,.int .i64 g.par.delay,.int .i64 g.par.streak,.int .i64 g.par.boost,.int .i64 g.par.absent,.int .i64 g.par.burn,.int .i64 g.par.churn,.int .i64 g.par.wait,.int .i64 g.par.poll,.int .i64 g.par.enact,.int .i64 g.par.quorum,.int .u64 g.most,pv,fv]
structure IsGen (h:PH) (pv fv:Value) (g:GenD):Prop where
 ok:ParOk g.par
 m:0≤g.most∧g.most≤18446744073709551615
 p:Ints h .u64 pv g.purses
 f:Recs fouC 2 h fv g.founders
 fo:∀ x∈g.founders,FouOk x
theorem IsGen.up {h h':PH} (le:PH.le h h') {pv fv:Value} {g:GenD} (hg:IsGen h pv fv g):IsGen h' pv fv g:=⟨hg.ok,hg.m,hg.p.up le,hg.f.up le,hg.fo⟩
def fouB (g:GenD) (f:FouD):Bool:=wi f.own 0 ((g.purses.length:Int)-1)&&decide (g.par.floor<f.bal)&&decide (f.bal≤g.par.cap)
def memF (p:ParD) (f:FouD):MemD:=⟨f.bal,wholeP p f.bal,0,0,f.own,2⟩
def genAll (g:GenD):List Int:=g.purses++g.founders.map FouD.bal
def newB (g:GenD):Bool:=parR g.par&&decide (g.most≤4611686018427387904)&&wi g.purses.length 1 64&&decide (g.founders.length≤128)&&g.founders.all (fouB g)&&decide (tot (genAll g)≤g.most)
def newS (g:GenD):StD:=⟨g.par,g.most,tot (genAll g),0,0,0,0,0,false,g.purses,g.founders.map (memF g.par),[],[],[],[],[],List.replicate 16 0,[]⟩
def newR (g:GenD):StD:=if newB g then newS g else zeroS
theorem founded_any (p:ParD) (ok:ParOk p) (hr:parR p=true) (f:FouD) (fo:FouOk f) (hk:K (memV (memF p f)) L h):Spec Tryz.prog 39 [parV p,.agg #[.int .i64 f.own,.int .u64 f.bal]] L h K:=by
 have fb:=fo.b
 refine x_enter Tryz.func39 rfl (rs:=[_]) rfl rfl mixed (by kernel_rfl) rfl rfl ?_
 refine xx ?_
 refine xnew fun b1 n_b1 h_b1=>?_
 try simp only [Apart] at n_b1
 refine xx ?_
 refine xnew fun b2 n_b2 h_b2=>?_
 try simp only [Apart] at n_b2
 refine xx ?_
 refine xnew fun b3 n_b3 h_b3=>?_
 try simp only [Apart] at n_b3
 refine xx ?_
 refine xanyl (.tk 0 (.tk 3 (.tk 7 (.tkl 1 (.tkl 2 (.tkl 4 (.tkl 8 (.or true 5 (.tk 6 (.tk 9 (.or false 10 (.fin) (.nil)))) (.nil))))))))) (by kernel_rfl) (by kernel_rfl) _ (Drop.refl _ _) ?_
 refine xx ?_
 refine gwhole_any p ok f.bal fb ?_
 rw [hr]
 refine xx ?_
 exact fin_tail (fin_tail (fin_tail (fin_here hk)))
theorem empty_any (hk:∀ h' v,PH.le h h'→Ints h' .u8 v (List.replicate 16 0)→K v L h'):Spec Tryz.prog 41 [] L h K:=by
 refine x_enter Tryz.func41 rfl (rs:=[_]) rfl rfl mixed (by kernel_rfl) rfl rfl ?_
 refine xx ?_
 refine size_any _ (by decide) (by decide) ?_
 rw [show sizeB 128=16 by decide]
 refine xx ?_
 refine xMS_full (e:=5) (z:=.int .u8 0) (by kernel_rfl) tI_5 rfl rfl .i64 .i64 16 (by decide) (by decide) (by decide) ?_
 refine xnew fun b1 n_b1 h_b1=>?_
 try simp only [Apart] at n_b1
 refine xx ?_
 exact ⟨L,_,pub_drop_at b1 _ _ _ [] _ h (by decide),hk _ _ (pub_le h_b1 _) (zeros_ints (n:=16) (pub_sl (o:=some (b1,16)) ⟨Nat.le_refl _,by simp [maxLen]⟩ rfl (by decide)))⟩
def memK (g:GenD) (k:Nat):List Value:=((g.founders.take k).map (memF g.par)).flatMap memC
def allK (g:GenD) (k:Nat):List Value:=(g.purses++(g.founders.take k).map FouD.bal).map (.int .u64)
theorem memK_len {g:GenD} {k:Nat} (hk:k≤g.founders.length):(memK g k).length=k*6:=by
 rw [memK,flatG_len memC_len]; simp [hk]
theorem allK_len {g:GenD} {k:Nat} (hk:k≤g.founders.length):(allK g k).length=(g.purses.length+k)*1:=by simp [allK,hk]
theorem memK_succ {g:GenD} {k:Nat} (hk:k<g.founders.length):memK g (k+1)=memK g k++memC (memF g.par (gr zeroFou g.founders k)):=by
 rw [memK,List.take_succ_eq_append_getElem hk,gr_lt hk,memK,List.map_append,List.flatMap_append]
 simp only [List.map_cons,List.map_nil,List.flatMap_cons,List.flatMap_nil,List.append_nil]
theorem allK_succ {g:GenD} {k:Nat} (hk:k<g.founders.length):allK g (k+1)=allK g k++[.int .u64 (gr zeroFou g.founders k).bal]:=by
 rw [allK,List.take_succ_eq_append_getElem hk,gr_lt hk,allK,List.map_append (f:=FouD.bal),← List.append_assoc,List.map_append]
 rfl
theorem wholeP_ok {p:ParD} (h1:1≤p.inc) (hp:ParOk p) {b:Int} (hb:0≤b∧b≤18446744073709551615):0≤wholeP p b∧wholeP p b≤18446744073709551615:=by
 have hm:=hp.w p.maxEff (by simp [wides])
 have h2:=Int.emod_nonneg b (show p.inc≠0 by omega)
 have h3:=Int.emod_lt_of_pos b (show 0<p.inc by omega)
 have h4:b%p.inc≤b:=by
  have h5:=Int.ediv_nonneg hb.1 (show 0≤p.inc by omega)
  have h6:=Int.mul_nonneg (show 0≤p.inc by omega) h5
  rw [Int.emod_def]
  omega
 unfold wholeP
 omega
theorem memF_ok {p:ParD} (h1:1≤p.inc) (hp:ParOk p) {f:FouD} (fo:FouOk f):MemOk (memF p f):=by
 have hw:=wholeP_ok h1 hp fo.b
 have hb:=fo.b
 have ho:=fo.o
 refine ⟨fun z hz=>?_,fun z hz=>?_⟩
 ·simp only [memF,List.mem_cons,List.not_mem_nil,or_false] at hz
  rcases hz with rfl | rfl | rfl
  ·exact hb
  ·exact hw
  ·decide
 ·simp only [memF,List.mem_cons,List.not_mem_nil,or_false] at hz
  rcases hz with rfl | rfl | rfl
  ·decide
  ·exact ho
  ·decide
theorem new_any {g:GenD} (pv fv:Value) (hg:IsGen h pv fv g) (np:g.purses.length≤1000) (hk:∀ h' u,PH.le h h'→IsSt h' u (newR g)→K (.tuple #[stV (newR g) u,.int .i64 (if newB g then 0 else 240)]) L h'):Spec Tryz.prog 11 [genV g pv fv] L h K:=by
 have no:newB g=false→∀ h',PH.le h h'→K (.tuple #[stV zeroS nilV,.int .i64 240]) L h':=fun e h' le=>by
  have:=hk h' nilV le (by rw [newR,e]; exact isSt_zero h')
  rw [newR,e] at this
  exact this
 have ok:=hg.ok
 have gm:=hg.m
 have hp:=hg.p
 have hpw:=hp.word
 obtain ⟨pa,pc,rfl,_⟩:=hp.open
 have hf:=hg.f
 obtain ⟨fa,fc,rfl,_,hfl,_,hfd⟩:=hf.open
 refine x_enter Tryz.func11 rfl (rs:=[_,_]) rfl rfl mixed (by kernel_rfl) rfl rfl ?_
 refine xx ?_
 refine xnew fun b1 n_b1 h_b1=>?_
 try simp only [Apart] at n_b1
 refine xx ?_
 refine xnew fun b2 n_b2 h_b2=>?_
 try simp only [Apart] at n_b2
 refine xx ?_
 refine pcheck0 g.par ok ?_
 cases q1:parR g.par with
 | false =>
  have:=no (by simp only [newB,q1,Bool.false_and]) h (PH.le_refl h)
  refine xx ?_
  exact fin_tail (fin_tail (fin_here this))
 | true =>
 by_cases q2:4611686018427387904<g.most
 ·have:=no (by simp only [newB,decide_eq_false (p:=g.most≤4611686018427387904) (by omega),Bool.and_false,Bool.false_and]) h (PH.le_refl h)
  refine xx ?_
  exact fin_tail (fin_tail (fin_here this))
 refine xx ?_
 refine swi_any _ _ _ ?_
 cases q3:wi g.purses.length 1 64 with
 | false =>
  have:=no (by simp only [newB,q3,Bool.and_false,Bool.false_and]) h (PH.le_refl h)
  refine xx ?_
  exact fin_tail (fin_tail (fin_here this))
 | true =>
 have q3':=wi_iff.1 q3
 by_cases q4:128<g.founders.length
 ·have:=no (by simp only [newB,decide_eq_false (p:=g.founders.length≤128) (by omega),Bool.and_false,Bool.false_and]) h (PH.le_refl h)
  refine xx ?_
  exact fin_tail (fin_tail (fin_here this))
 refine xx ?_
 refine clone64_own _ hp (by omega) fun o0 k0 a0=>?_
 have m1:apB o0 b1:=(apO_tail a0).head
 have e0:g.purses.map (.int .u64)=allK g 0:=by simp [allK]
 rw [e0]
 simp -dsimp -implicitDefEqProofs (disch:=first|with_reducible assumption|omega) [go_sem,xFind_oent m1]
 refine xloop (γ:=Nat×Option (Nat×Nat)×Option (Nat×Nat)) (0,o0,none)
  (fun q=>q.1≤g.founders.length∧okO q.2.1 (g.purses.length+q.1)∧okO q.2.2 q.1∧apO q.2.1 (oent 73 6 q.2.2 (memK g q.1) (⟨b2,39,stC zeroS nilV,41⟩::⟨b1,28,genC g (.slice pa g.purses.length pc) (.slice fa g.founders.length fc),27⟩::L)) h∧apO q.2.2 (⟨b2,39,stC zeroS nilV,41⟩::⟨b1,28,genC g (.slice pa g.purses.length pc) (.slice fa g.founders.length fc),27⟩::L) h∧∀ j,j<q.1→fouB g (gr zeroFou g.founders j)=true)
  (fun q=>[(39,.int .i64 q.1),(38,.int .i64 g.founders.length),(37,.slice fa g.founders.length fc),(4,ovs q.2.1 (g.purses.length+q.1)),(5,ovs q.2.2 q.1),(1,.pointer (some ⟨b1,0,none⟩)),(2,.pointer (some ⟨b2,0,none⟩))])
  (fun q=>oent 22 1 q.2.1 (allK g q.1) (oent 73 6 q.2.2 (memK g q.1) (⟨b2,39,stC zeroS nilV,41⟩::⟨b1,28,genC g (.slice pa g.purses.length pc) (.slice fa g.founders.length fc),27⟩::L))) (fun _=>h) (fun q=>g.founders.length-q.1) ?_ ?_ ?_ ?_
 ·exact ⟨Nat.zero_le _,k0,rfl,a0,trivial,fun j hj=>by simp only at hj; omega⟩
 ·simp [Ent,List.lookup,xEnv,ovs]
 ·exact Drop.refl _ _
 rintro ⟨k,o1,o2⟩ ⟨i1,i2,i3,i4,i5,i6⟩
 simp only at i1 i2 i3 i4 i5 i6 ⊢
 have i4':=apO_oent i4
 have m1b:apB o1 b1:=(apO_tail i4').head
 have m1a:apB o1 b2:=i4'.head
 have m2b:apB o2 b1:=(apO_tail i5).head
 have m2a:apB o2 b2:=i5.head
 by_cases c1:k<g.founders.length
 ·have hfo:=hg.fo (gr zeroFou g.founders k) (by rw [gr_lt c1]; exact List.getElem_mem c1)
  have hfb:=hfo.b
  have bad:fouB g (gr zeroFou g.founders k)=false→K (.tuple #[stV zeroS nilV,.int .i64 240]) L h:=fun e=>no (by simp only [newB,not_all_gr zeroFou (fouB g) g.founders c1 e,Bool.and_false,Bool.false_and]) h (PH.le_refl h)
  simp -dsimp -implicitDefEqProofs (disch:=first|with_reducible assumption|omega) [go_sem,↓idxR zeroFou (by decide) hfd,fouC]
  refine xnew fun b7 n_b7 h_b7=>?_
  try simp only [Apart] at n_b7
  have n7:=apart_oent (apart_oent n_b7)
  simp only [Apart] at n7
  obtain ⟨n72,n71,_⟩:=n7
  simp -dsimp -implicitDefEqProofs (disch:=first|with_reducible assumption|omega) [go_sem,fouC,xFind_oent m1b,xFind_oent m2b]
  refine swi_any _ _ _ ?_
  cases q5:wi (gr zeroFou g.founders k).own 0 ((g.purses.length:Int)-1) with
  | false =>
   have:=bad (by simp only [fouB,q5,Bool.false_and])
   simp -dsimp -implicitDefEqProofs (disch:=first|with_reducible assumption|omega) [go_sem,xSet_oent m1a,xSet_oent m2a,xFind_oent m1a,xFind_oent m2a]
   exact fin_tail (fin_oent (fin_oent (fin_tail (fin_tail (fin_here this)))))
  | true =>
  by_cases q6:(gr zeroFou g.founders k).bal≤g.par.floor
  ·have:=bad (by simp only [fouB,decide_eq_false (p:=g.par.floor<(gr zeroFou g.founders k).bal) (by omega),Bool.and_false,Bool.false_and])
   simp -dsimp -implicitDefEqProofs (disch:=first|with_reducible assumption|omega) [go_sem,xSet_oent m1a,xSet_oent m2a,xFind_oent m1a,xFind_oent m2a,xFind_oent m1b,xFind_oent m2b]
   exact fin_tail (fin_oent (fin_oent (fin_tail (fin_tail (fin_here this)))))
  by_cases q7:g.par.cap<(gr zeroFou g.founders k).bal
  ·have:=bad (by simp only [fouB,decide_eq_false (p:=(gr zeroFou g.founders k).bal≤g.par.cap) (by omega),Bool.and_false])
   simp -dsimp -implicitDefEqProofs (disch:=first|with_reducible assumption|omega) [go_sem,xSet_oent m1a,xSet_oent m2a,xFind_oent m1a,xFind_oent m2a,xFind_oent m1b,xFind_oent m2b]
   exact fin_tail (fin_oent (fin_oent (fin_tail (fin_tail (fin_here this)))))
  have yes:fouB g (gr zeroFou g.founders k)=true:=by
   simp only [fouB,q5,Bool.true_and,Bool.and_eq_true,decide_eq_true_eq]; omega
  simp -dsimp -implicitDefEqProofs (disch:=first|with_reducible assumption|omega) [go_sem,xFind_oent m1a,xFind_oent m2a,xFind_oent m1b,xFind_oent m2b]
  refine xnew fun b8 n_b8 h_b8=>?_
  try simp only [Apart] at n_b8
  have n8:=apart_oent (apart_oent n_b8.2)
  simp only [Apart] at n8
  obtain ⟨n82,n81,_⟩:=n8
  refine xx ?_
  refine xappend (t:=25) (e:=22) (sz:=1) (bytes:=8) (by kernel_rfl) tI_22 rfl rfl rfl rfl (by decide) [_,_] _ o1 (g.purses.length+k) (allK g k) i2 (allK_len i1) (Src.own List.mem_cons_self) (m:=1) (news:=[.int .u64 (gr zeroFou g.founders k).bal]) rfl (by intro u hu; simp only [List.mem_singleton] at hu; subst hu; rfl) (by simp [maxLen]; omega) (by omega) ?_
  intro o1' j1 j2 j3
  have j4:=apO_tail (apO_tail j2)
  have j4':=apO_oent j4
  have m1b':apB o1' b1:=(apO_tail j4').head
  have m1a':apB o1' b2:=j4'.head
  simp -dsimp -implicitDefEqProofs (disch:=first|with_reducible assumption|omega) [go_sem,xFind_oent m1b',xFind_oent m2b]
  refine founded_any g.par ok q1 _ hfo ?_
  refine xx ?_
  refine xnew fun b9 n_b9 h_b9=>?_
  try simp only [Apart] at n_b9
  refine xx ?_
  rw [oent_split (e:=22) o1']
  refine xappend (t:=31) (e:=73) (sz:=6) (bytes:=48) (by kernel_rfl) tI_73 rfl rfl rfl rfl (by decide) (_::_::_::oent 22 1 o1' _ []) _ o2 k (memK g k) i3 (memK_len i1) (Src.own List.mem_cons_self) (m:=1) (news:=memC (memF g.par (gr zeroFou g.founders k))) rfl (by intro u hu; simp only [memC,List.mem_cons,List.not_mem_nil,or_false] at hu; rcases hu with rfl | rfl | rfl | rfl | rfl | rfl<;>rfl) (by simp [maxLen]; omega) (by omega) ?_
  intro o2' l1 l2 l3
  have l4:=apO_tail (apO_tail (apO_tail l2))
  have l5:=apO_swap (e2:=73) (sz2:=6) (cs2:=memK g (k+1)) j4' l4
  refine xx ?_
  refine ⟨k+1,o1',o2',⟨by omega,by rw [← Nat.add_assoc]; exact j1,l1,l5.1,l5.2,fun j hj=>?_⟩,by omega,by simp [Ent,List.lookup,Nat.add_assoc],?_⟩
  ·by_cases e:j=k
   ·subst e; exact yes
   ·exact i6 j (by omega)
  ·rw [memK_succ c1,allK_succ c1,← oent_split]
   exact (Drop.tail _ _ _).trans ((Drop.tail _ _ _).trans (Drop.tail _ _ _))
 ·have hkl:k=g.founders.length:=by omega
  subst hkl
  have fall:=all_gr zeroFou (fouB g) g.founders i6
  have eA:allK g g.founders.length=(genAll g).map (.int .u64):=by simp [allK,genAll]
  have lA:(genAll g).length=g.purses.length+g.founders.length:=by simp [genAll]
  obtain ⟨ma,mc,em,_⟩:=ovs_open i3
  rw [eA,em]
  refine xx ?_
  refine call_pub (n:=g.purses.length+g.founders.length) i2 (by simp [lA]) (by omega) i4 fun h1 le1 sl1=>?_
  have iA:Ints h1 .u64 (ovs o1 (g.purses.length+g.founders.length)) (genAll g):=⟨by rw [lA]; exact sl1,fun z hz=>by
   rw [show IntKind.u64.min=0 by decide,show IntKind.u64.max=18446744073709551615 by decide]
   rcases List.mem_append.1 hz with hz | hz
   ·have:=hp.2 z hz
    rwa [show IntKind.u64.min=0 by decide,show IntKind.u64.max=18446744073709551615 by decide] at this
   ·obtain ⟨f,hf1,rfl⟩:=List.mem_map.1 hz
    exact (hg.fo f hf1).b⟩
  refine Spec.ap (msum_any _ iA fun ap=>?_)
  have i5':=apO_next i5 ap
  have ap2:=Ap.oent ap
  simp only [Ap] at ap2
  obtain ⟨p2,p1,_⟩:=ap2
  have no1:newB g=false→K (.tuple #[stV zeroS nilV,.int .i64 240]) L h1:=fun e=>no e h1 le1
  by_cases c2:tot (genAll g)≤18446744073709551615
  ·rw [sumV_ok c2]
   by_cases c3:g.most<tot (genAll g)
   ·have:=no1 (by simp only [newB,decide_eq_false (p:=tot (genAll g)≤g.most) (by omega),Bool.and_false])
    simp -dsimp -implicitDefEqProofs (disch:=first|with_reducible assumption|omega) [go_sem,xSet_oent m2a,xFind_oent m2a,xFind_oent m2b]
    exact fin_oent (fin_tail (fin_tail (fin_here this)))
   have yes:newB g=true:=by
    simp only [newB,q1,q3,fall,Bool.true_and,Bool.and_true,Bool.and_eq_true,decide_eq_true_eq]
    omega
   simp -dsimp -implicitDefEqProofs (disch:=first|with_reducible assumption|omega) [go_sem,xSet_oent m2a,xFind_oent m2a,xFind_oent m2b]
   refine xanyl (.tk 0 (.tk 2 (.tk 4 (.tk 5 (.tk 8 (.tkl 1 (.tkl 3 (.tkl 6 (.or true 7 (.or true 9 (.tk 10 (.or false 11 (.tk 12 (.fin)) (.nil))) (.nil)) (.nil)))))))))) (by kernel_rfl) (by kernel_rfl) _ (Drop.refl _ _) ?_
   simp -dsimp -implicitDefEqProofs (disch:=first|with_reducible assumption|omega) [go_sem,xSet_oent m2a,xFind_oent m2a,xFind_oent m2b]
   refine Spec.ap (clone64_any _ (hp.up le1) (by omega) fun h2 r2 le2 ir2 ap=>?_)
   have i5'':=apO_next i5' ap
   have ap2:=Ap.oent ap
   simp only [Ap] at ap2
   obtain ⟨s2,s1,_⟩:=ap2
   obtain ⟨ra2,rc2,rfl,_⟩:=ir2.open
   refine xkp (Drop.forget le2) ?_
   simp -dsimp -implicitDefEqProofs (disch:=first|with_reducible assumption|omega) [go_sem,xSet_oent m2a,xFind_oent m2a,xFind_oent m2b]
   refine Spec.ap (empty_any fun h3 r3 le3 ir3 ap=>?_)
   have i5''':=apO_next i5'' ap
   have ap2:=Ap.oent ap
   simp only [Ap] at ap2
   obtain ⟨u2,u1,_⟩:=ap2
   obtain ⟨ra3,rc3,rfl,_⟩:=ir3.open
   refine xkp (Drop.forget (le2.trans le3)) ?_
   simp -dsimp -implicitDefEqProofs (disch:=first|with_reducible assumption|omega) [go_sem,xSet_oent m2a,xFind_oent m2a,xFind_oent m2b]
   have eK:memK g g.founders.length=(g.founders.map (memF g.par)).flatMap memC:=by simp [memK]
   have lK:(g.founders.map (memF g.par)).length=g.founders.length:=by simp
   have eR:newR g=newS g:=by rw [newR,yes]; rfl
   rw [eR,yes] at hk
   rw [eK]
   refine fin_pub (e:=73) (n:=g.founders.length) i3 (by rw [flatG_len memC_len,lK]) (by omega) i5''' fun h4 le4 sl4=>?_
   rw [em] at sl4
   have hz0:0≤tot (genAll g):=tot_nonneg fun i=>by
    rcases Nat.lt_or_ge i (genAll g).length with hi | hi
    ·rw [← at0_lt hi]
     have:=iA.2 _ (List.getElem_mem hi)
     rw [show IntKind.u64.min=0 by decide] at this
     exact this.1
    ·simp [at0,List.getD_eq_getElem?_getD,List.getElem?_eq_none hi]
   have hS:IsSt h4 ⟨.slice ra2 g.purses.length rc2,.slice ma g.founders.length mc,.slice none 0 0,.slice none 0 0,.slice none 0 0,.slice none 0 0,.slice none 0 0,.slice ra3 (List.replicate 16 (0:Int)).length rc3,.slice none 0 0⟩ (newS g):=by
    refine ⟨⟨ok,fun z hz=>?_,fun z hz=>?_⟩,ir2.up (le3.trans le4),⟨memC_len,by rw [newS,lK]; exact sl4⟩,fun x hx=>?_,nil_ints h4 .i64,nil_ints h4 .i64,Recs.nil depC_len h4,(fun x hx=>by cases hx),Recs.nil dueC_len h4,(fun x hx=>by cases hx),⟨[],Recs.nil motC_len h4,rfl,fun x hx=>by cases hx⟩,ir3.up le4,⟨[],strs_nil h4,rfl⟩⟩
    ·simp only [newS,List.mem_cons,List.not_mem_nil,or_false] at hz
     omega
    ·simp only [newS,List.mem_cons,List.not_mem_nil,or_false] at hz
     omega
    ·obtain ⟨f,hf1,rfl⟩:=List.mem_map.1 hx
     exact memF_ok (inc_pos q1) ok (hg.fo f hf1)
   exact fin_tail (fin_tail (fin_here (hk h4 _ ((le1.trans le2).trans (le3.trans le4)) hS)))
  ·rw [sumV_no c2]
   have:=no1 (by simp only [newB,decide_eq_false (p:=tot (genAll g)≤g.most) (by omega),Bool.and_false])
   simp -dsimp -implicitDefEqProofs (disch:=first|with_reducible assumption|omega) [go_sem,xSet_oent m2a,xFind_oent m2a,xFind_oent m2b]
   exact fin_oent (fin_tail (fin_tail (fin_here this)))
end Go.X
