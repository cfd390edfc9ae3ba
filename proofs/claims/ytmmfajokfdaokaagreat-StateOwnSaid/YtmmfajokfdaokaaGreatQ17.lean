/- Lemmas and contracts for a statement about the given program. Conditions: as each says. -/
import Derived.Test.YtmmfajokfdaokaaGreatQ15
import Derived.Test.YtmmfajokfdaokaaGreatQ16
set_option linter.unusedVariables false
set_option linter.unusedSimpArgs false
set_option maxHeartbeats 12800000
set_option maxRecDepth 20000
namespace Go.X
open Go.RowKit Go.Proofs Go.Bl
variable {L:Own} {h:PH} {K:PK}
theorem oent_split {e sz:Nat} (o:Option (Nat×Nat)) (xs:List Value) (M:Own):oent e sz o xs M=oent e sz o xs []++M:=by
 cases o<;>rfl
theorem apO_oent {e sz:Nat} {o o2:Option (Nat×Nat)} {xs:List Value} {M:Own} {h:PH} (ha:apO o (oent e sz o2 xs M) h):apO o M h:=by
 cases o with
 | none=>trivial
 | some p=>exact ⟨apart_oent ha.1,ha.2⟩
theorem apO_swap {e sz e2 sz2:Nat} {o1 o2:Option (Nat×Nat)} {cs1 cs2:List Value} {M:Own} {h:PH} (h1:apO o1 M h) (h2:apO o2 (oent e sz o1 cs1 []++M) h):apO o1 (oent e2 sz2 o2 cs2 M) h∧apO o2 M h:=by
 cases o1 with
 | none=>exact ⟨trivial,h2⟩
 | some p =>
  cases o2 with
  | none=>exact ⟨h1,trivial⟩
  | some q =>
   have:p.1≠q.1:=h2.1.1
   exact ⟨⟨⟨fun e=>this e.symm,h1.1⟩,h1.2⟩,⟨h2.1.2,h2.2⟩⟩
theorem clone64_own {xs:List Int} (v:Value) (hx:Ints h .u64 v xs) (hl:xs.length≤100000) (hk:∀ o,okO o xs.length→apO o L h→K (ovs o xs.length) (oent 22 1 o (xs.map (.int .u64)) L) h):Spec Tryz.prog 38 [v] L h K:=by
 have ox:=hx.open
 obtain ⟨a,ca,rfl,hna,hca,h0,hcx⟩:=ox
 refine x_enter Tryz.func38 rfl (rs:=[_]) rfl rfl mixed (by kernel_rfl) rfl rfl ?_
 refine xx ?_
 cases ha:a.isNone with
 | true =>
  have ha':a=none:=by simpa using ha
  subst ha'
  have hl0:xs.length=0:=by have:=h0 rfl; omega
  have hx':xs=[]:=List.eq_nil_of_length_eq_zero hl0
  subst hx'
  refine xx ?_
  exact fin_here (hk none rfl trivial)
 | false =>
  refine xx ?_
  refine xnew fun b1 n_b1 h_b1=>?_
  try simp only [Apart] at n_b1
  refine xx ?_
  refine xappend (t:=25) (e:=22) (sz:=1) (bytes:=8) (z:=[.int .u64 0]) (by kernel_rfl) tI_22 rfl rfl rfl rfl (by decide) [] L (some (b1,0)) 0 [] ⟨Nat.le_refl _,Nat.zero_le _⟩ rfl (Src.known hx.1) (by simp) (ints_one _ _) (by simp [maxLen]; omega) (by omega) ?_
  intro o' j1 j2 j3
  simp only [Nat.zero_add,List.nil_append] at j1 j2 ⊢
  refine xx ?_
  exact fin_here (hk o' j1 j2)
theorem gwhole_any (p:ParD) (ok:ParOk p) (b:Int) (hb:0≤b∧b≤18446744073709551615) (hk:K (.int .u64 (if parR p then wholeP p b else 0)) L h):Spec Tryz.prog 118 [parV p,.int .u64 b] L h K:=by
 refine x_enter Tryz.func118 rfl (rs:=[_]) rfl rfl mixed (by kernel_rfl) rfl rfl ?_
 refine xx ?_
 refine xnew fun b1 n_b1 h_b1=>?_
 try simp only [Apart] at n_b1
 refine xx ?_
 refine scaled_any p ok ?_
 refine xx ?_
 refine xnew fun b2 n_b2 h_b2=>?_
 try simp only [Apart] at n_b2
 refine xx ?_
 cases hr:parR p with
 | false =>
  rw [hr] at hk
  refine xx ?_
  exact fin_tail (fin_tail (fin_here hk))
 | true =>
  rw [hr] at hk
  refine xx ?_
  refine whole_any p b (inc_pos hr) hb ?_
  refine xx ?_
  exact fin_tail (fin_tail (fin_here hk))
structure FouD where
 own:Int
 bal:Int
def zeroFou:FouD:=⟨0,0⟩
def fouC (f:FouD):List Value:=[.int .i64 f.own,.int .u64 f.bal]
theorem fouC_len (f:FouD):(fouC f).length=2:=rfl
structure FouOk (f:FouD):Prop where
 o : -9223372036854775808≤f.own∧f.own≤9223372036854775807
 b:0≤f.bal∧f.bal≤18446744073709551615
structure GenD where
 par:ParD
 most:Int
 purses:List Int
 founders:List FouD
abbrev genC (g:GenD) (pv fv:Value):List Value:=[.int .u64 g.par.inc,.int .u64 g.par.maxEff,.int .u64 g.par.floor,.int .u64 g.par.cap,.int .u64 g.par.up,.int .u64 g.par.down,.int .u64 g.par.bias,.int .u64 g.par.quot,.int .u64 g.par.biasEm,.int .u64 g.par.quotEm,.int .u64 g.par.recover,.int .u64 g.par.scoreCap,.int .u64 g.par.rate,.int .u64 g.par.bond,.int .i64 g.par.delay,.int .i64 g.par.streak,.int .i64 g.par.boost,.int .i64 g.par.absent,.int .i64 g.par.burn,.int .i64 g.par.churn,.int .i64 g.par.wait,.int .i64 g.par.poll,.int .i64 g.par.enact,.int .i64 g.par.quorum,.int .u64 g.most,pv,fv]
abbrev genV (g:GenD) (pv fv:Value):Value := .agg #[.int .u64 g.par.inc,.int .u64 g.par.maxEff,.int .u64 g.par.floor,.int .u64 g.par.cap,.int .u64 g.par.up,.int .u64 g.par.down,.int .u64 g.par.bias,.int .u64 g.par.quot,.int .u64 g.par.biasEm,.int .u64 g.par.quotEm,.int .u64 g.par.recover,.int .u64 g.par.scoreCap,.int .u64 g.par.rate,.int .u64 g.par.bond,.int .i64 g.par.delay,.int .i64 g.par.streak,.int .i64 g.par.boost,.int .i64 g.par.absent,.int .i64 g.par.burn,.int .i64 g.par.churn,.int .i64 g.par.wait,.int .i64 g.par.poll,.int .i64 g.par.enact,.int .i64 g.par.quorum,.int .u64 g.most,pv,fv]
structure IsGen (h:PH) (pv fv:Value) (g:GenD):Prop where
 ok:ParOk g.par
 m:0≤g.most∧g.most≤18446744073709551615
 p:Ints h .u64 pv g.purses
 f:Recs fouC 2 h fv g.founders
 fo:∀ x∈g.founders,FouOk x
theorem IsGen.up {h h':PH} (le:PH.le h h') {pv fv:Value} {g:GenD} (hg:IsGen h pv fv g):IsGen h' pv fv g:=⟨hg.ok,hg.m,hg.p.up le,hg.f.up le,hg.fo⟩
def fouB (g:GenD) (f:FouD):Bool:=wi f.own 0 ((g.purses.length:Int)-1)&&decide (g.par.floor<f.bal)&&decide (f.bal≤g.par.cap)
def memF (p:ParD) (f:FouD):MemD:=⟨f.bal,wholeP p f.bal,0,0,f.own,2⟩
def genAll (g:GenD):List Int:=g.purses++g.founders.map FouD.bal
def newB (g:GenD):Bool:=parR g.par&&decide (g.most≤4611686018427387904)&&wi g.purses.length 1 64&&decide (g.founders.length≤128)&&g.founders.all (fouB g)&&decide (tot (genAll g)≤g.most)
def newS (g:GenD):StD:=⟨g.par,g.most,tot (genAll g),0,0,0,0,0,false,g.purses,g.founders.map (memF g.par),[],[],[],[],[],List.replicate 16 0,[]⟩
def newR (g:GenD):StD:=if newB g then newS g else zeroS
theorem founded_any (p:ParD) (ok:ParOk p) (hr:parR p=true) (f:FouD) (fo:FouOk f) (hk:K (memV (memF p f)) L h):Spec Tryz.prog 39 [parV p,.agg #[.int .i64 f.own,.int .u64 f.bal]] L h K:=by
 have fb:=fo.b
 refine x_enter Tryz.func39 rfl (rs:=[_]) rfl rfl mixed (by kernel_rfl) rfl rfl ?_
 refine xx ?_
 refine xnew fun b1 n_b1 h_b1=>?_
 try simp only [Apart] at n_b1
 refine xx ?_
 refine xnew fun b2 n_b2 h_b2=>?_
 try simp only [Apart] at n_b2
 refine xx ?_
 refine xnew fun b3 n_b3 h_b3=>?_
 try simp only [Apart] at n_b3
 refine xx ?_
 refine xanyl (.tk 0 (.tk 3 (.tk 7 (.tkl 1 (.tkl 2 (.tkl 4 (.tkl 8 (.or true 5 (.tk 6 (.tk 9 (.or false 10 (.fin) (.nil)))) (.nil))))))))) (by kernel_rfl) (by kernel_rfl) _ (Drop.refl _ _) ?_
 refine xx ?_
 refine gwhole_any p ok f.bal fb ?_
 rw [hr]
 refine xx ?_
 exact fin_tail (fin_tail (fin_tail (fin_here hk)))
theorem empty_any (hk:∀ h' v,PH.le h h'→Ints h' .u8 v (List.replicate 16 0)→K v L h'):Spec Tryz.prog 41 [] L h K:=by
 refine x_enter Tryz.func41 rfl (rs:=[_]) rfl rfl mixed (by kernel_rfl) rfl rfl ?_
 refine xx ?_
 refine size_any _ (by decide) (by decide) ?_
 rw [show sizeB 128=16 by decide]
 refine xx ?_
 refine xMS_full (e:=5) (z:=.int .u8 0) (by kernel_rfl) tI_5 rfl rfl .i64 .i64 16 (by decide) (by decide) (by decide) ?_
 refine xnew fun b1 n_b1 h_b1=>?_
 try simp only [Apart] at n_b1
 refine xx ?_
 exact ⟨L,_,pub_drop_at b1 _ _ _ [] _ h (by decide),hk _ _ (pub_le h_b1 _) (zeros_ints (n:=16) (pub_sl (o:=some (b1,16)) ⟨Nat.le_refl _,by simp [maxLen]⟩ rfl (by decide)))⟩
def memK (g:GenD) (k:Nat):List Value:=((g.founders.take k).map (memF g.par)).flatMap memC
def allK (g:GenD) (k:Nat):List Value:=(g.purses++(g.founders.take k).map FouD.bal).map (.int .u64)
theorem memK_len {g:GenD} {k:Nat} (hk:k≤g.founders.length):(memK g k).length=k*6:=by
 rw [memK,flatG_len memC_len]; simp [hk]
theorem allK_len {g:GenD} {k:Nat} (hk:k≤g.founders.length):(allK g k).length=(g.purses.length+k)*1:=by simp [allK,hk]
theorem memK_succ {g:GenD} {k:Nat} (hk:k<g.founders.length):memK g (k+1)=memK g k++memC (memF g.par (gr zeroFou g.founders k)):=by
 rw [memK,List.take_succ_eq_append_getElem hk,gr_lt hk,memK,List.map_append,List.flatMap_append]
 simp only [List.map_cons,List.map_nil,List.flatMap_cons,List.flatMap_nil,List.append_nil]
theorem allK_succ {g:GenD} {k:Nat} (hk:k<g.founders.length):allK g (k+1)=allK g k++[.int .u64 (gr zeroFou g.founders k).bal]:=by
 rw [allK,List.take_succ_eq_append_getElem hk,gr_lt hk,allK,List.map_append (f:=FouD.bal),← List.append_assoc,List.map_append]
 rfl
theorem wholeP_ok {p:ParD} (h1:1≤p.inc) (hp:ParOk p) {b:Int} (hb:0≤b∧b≤18446744073709551615):0≤wholeP p b∧wholeP p b≤18446744073709551615:=by
 have hm:=hp.w p.maxEff (by simp [wides])
 have h2:=Int.emod_nonneg b (show p.inc≠0 by omega)
 have h3:=Int.emod_lt_of_pos b (show 0<p.inc by omega)
 have h4:b%p.inc≤b:=by
  have h5:=Int.ediv_nonneg hb.1 (show 0≤p.inc by omega)
  have h6:=Int.mul_nonneg (show 0≤p.inc by omega) h5
  rw [Int.emod_def]
  omega
 unfold wholeP
 omega
theorem memF_ok {p:ParD} (h1:1≤p.inc) (hp:ParOk p) {f:FouD} (fo:FouOk f):MemOk (memF p f):=by
 have hw:=wholeP_ok h1 hp fo.b
 have hb:=fo.b
 have ho:=fo.o
 refine ⟨fun z hz=>?_,fun z hz=>?_⟩
 ·simp only [memF,List.mem_cons,List.not_mem_nil,or_false] at hz
  rcases hz with rfl | rfl | rfl
  ·exact hb
  ·exact hw
  ·decide
 ·simp only [memF,List.mem_cons,List.not_mem_nil,or_false] at hz
  rcases hz with rfl | rfl | rfl
  ·decide
  ·exact ho
  ·decide
theorem new_any {g:GenD} (pv fv:Value) (hg:IsGen h pv fv g) (np:g.purses.length≤1000) (hk:∀ h' u,PH.le h h'→IsSt h' u (newR g)→K (.tuple #[stV (newR g) u,.int .i64 (if newB g then 0 else 240)]) L h'):Spec Tryz.prog 11 [genV g pv fv] L h K:=by
 have no:newB g=false→∀ h',PH.le h h'→K (.tuple #[stV zeroS nilV,.int .i64 240]) L h':=fun e h' le=>by
  have:=hk h' nilV le (by rw [newR,e]; exact isSt_zero h')
  rw [newR,e] at this
  exact this
 have ok:=hg.ok
 have gm:=hg.m
 have hp:=hg.p
 have hpw:=hp.word
 obtain ⟨pa,pc,rfl,_⟩:=hp.open
 have hf:=hg.f
 obtain ⟨fa,fc,rfl,_,hfl,_,hfd⟩:=hf.open
 refine x_enter Tryz.func11 rfl (rs:=[_,_]) rfl rfl mixed (by kernel_rfl) rfl rfl ?_
 refine xx ?_
 refine xnew fun b1 n_b1 h_b1=>?_
 try simp only [Apart] at n_b1
 refine xx ?_
 refine xnew fun b2 n_b2 h_b2=>?_
 try simp only [Apart] at n_b2
 refine xx ?_
 refine pcheck0 g.par ok ?_
 cases q1:parR g.par with
 | false =>
  have:=no (by simp only [newB,q1,Bool.false_and]) h (PH.le_refl h)
  refine xx ?_
  exact fin_tail (fin_tail (fin_here this))
 | true =>
 by_cases q2:4611686018427387904<g.most
 ·have:=no (by simp only [newB,decide_eq_false (p:=g.most≤4611686018427387904) (by omega),Bool.and_false,Bool.false_and]) h (PH.le_refl h)
  refine xx ?_
  exact fin_tail (fin_tail (fin_here this))
 refine xx ?_
 refine swi_any _ _ _ ?_
 cases q3:wi g.purses.length 1 64 with
 | false =>
  have:=no (by simp only [newB,q3,Bool.and_false,Bool.false_and]) h (PH.le_refl h)
  refine xx ?_
  exact fin_tail (fin_tail (fin_here this))
 | true =>
 have q3':=wi_iff.1 q3
 by_cases q4:128<g.founders.length
 ·have:=no (by simp only [newB,decide_eq_false (p:=g.founders.length≤128) (by omega),Bool.and_false,Bool.false_and]) h (PH.le_refl h)
  refine xx ?_
  exact fin_tail (fin_tail (fin_here this))
 refine xx ?_
 refine clone64_own _ hp (by omega) fun o0 k0 a0=>?_
 have m1:apB o0 b1:=(apO_tail a0).head
 have e0:g.purses.map (.int .u64)=allK g 0:=by simp [allK]
 rw [e0]
 simp -dsimp -implicitDefEqProofs (disch:=first|with_reducible assumption|omega) [go_sem,xFind_oent m1]
 refine xloop (γ:=Nat×Option (Nat×Nat)×Option (Nat×Nat)) (0,o0,none)
  (fun q=>q.1≤g.founders.length∧okO q.2.1 (g.purses.length+q.1)∧okO q.2.2 q.1∧apO q.2.1 (oent 73 6 q.2.2 (memK g q.1) (⟨b2,39,stC zeroS nilV,41⟩::⟨b1,28,genC g (.slice pa g.purses.length pc) (.slice fa g.founders.length fc),27⟩::L)) h∧apO q.2.2 (⟨b2,39,stC zeroS nilV,41⟩::⟨b1,28,genC g (.slice pa g.purses.length pc) (.slice fa g.founders.length fc),27⟩::L) h∧∀ j,j<q.1→fouB g (gr zeroFou g.founders j)=true)
  (fun q=>[(39,.int .i64 q.1),(38,.int .i64 g.founders.length),(37,.slice fa g.founders.length fc),(4,ovs q.2.1 (g.purses.length+q.1)),(5,ovs q.2.2 q.1),(1,.pointer (some ⟨b1,0,none⟩)),(2,.pointer (some ⟨b2,0,none⟩))])
  (fun q=>oent 22 1 q.2.1 (allK g q.1) (oent 73 6 q.2.2 (memK g q.1) (⟨b2,39,stC zeroS nilV,41⟩::⟨b1,28,genC g (.slice pa g.purses.length pc) (.slice fa g.founders.length fc),27⟩::L))) (fun _=>h) (fun q=>g.founders.length-q.1) ?_ ?_ ?_ ?_
 ·exact ⟨Nat.zero_le _,k0,rfl,a0,trivial,fun j hj=>by simp only at hj; omega⟩
 ·simp [Ent,List.lookup,xEnv,ovs]
 ·exact Drop.refl _ _
 rintro ⟨k,o1,o2⟩ ⟨i1,i2,i3,i4,i5,i6⟩
 simp only at i1 i2 i3 i4 i5 i6 ⊢
 have i4':=apO_oent i4
 have m1b:apB o1 b1:=(apO_tail i4').head
 have m1a:apB o1 b2:=i4'.head
 have m2b:apB o2 b1:=(apO_tail i5).head
 have m2a:apB o2 b2:=i5.head
 by_cases c1:k<g.founders.length
 ·have hfo:=hg.fo (gr zeroFou g.founders k) (by rw [gr_lt c1]; exact List.getElem_mem c1)
  have hfb:=hfo.b
  have bad:fouB g (gr zeroFou g.founders k)=false→K (.tuple #[stV zeroS nilV,.int .i64 240]) L h:=fun e=>no (by simp only [newB,not_all_gr zeroFou (fouB g) g.founders c1 e,Bool.and_false,Bool.false_and]) h (PH.le_refl h)
  simp -dsimp -implicitDefEqProofs (disch:=first|with_reducible assumption|omega) [go_sem,↓idxR zeroFou (by decide) hfd,fouC]
  refine xnew fun b7 n_b7 h_b7=>?_
  try simp only [Apart] at n_b7
  have n7:=apart_oent (apart_oent n_b7)
  simp only [Apart] at n7
  obtain ⟨n72,n71,_⟩:=n7
  simp -dsimp -implicitDefEqProofs (disch:=first|with_reducible assumption|omega) [go_sem,fouC,xFind_oent m1b,xFind_oent m2b]
  refine swi_any _ _ _ ?_
  cases q5:wi (gr zeroFou g.founders k).own 0 ((g.purses.length:Int)-1) with
  | false =>
   have:=bad (by simp only [fouB,q5,Bool.false_and])
   simp -dsimp -implicitDefEqProofs (disch:=first|with_reducible assumption|omega) [go_sem,xSet_oent m1a,xSet_oent m2a,xFind_oent m1a,xFind_oent m2a]
   exact fin_tail (fin_oent (fin_oent (fin_tail (fin_tail (fin_here this)))))
  | true =>
  by_cases q6:(gr zeroFou g.founders k).bal≤g.par.floor
  ·have:=bad (by simp only [fouB,decide_eq_false (p:=g.par.floor<(gr zeroFou g.founders k).bal) (by omega),Bool.and_false,Bool.false_and])
   simp -dsimp -implicitDefEqProofs (disch:=first|with_reducible assumption|omega) [go_sem,xSet_oent m1a,xSet_oent m2a,xFind_oent m1a,xFind_oent m2a,xFind_oent m1b,xFind_oent m2b]
   exact fin_tail (fin_oent (fin_oent (fin_tail (fin_tail (fin_here this)))))
  by_cases q7:g.par.cap<(gr zeroFou g.founders k).bal
  ·have:=bad (by simp only [fouB,decide_eq_false (p:=(gr zeroFou g.founders k).bal≤g.par.cap) (by omega),Bool.and_false])
   simp -dsimp -implicitDefEqProofs (disch:=first|with_reducible assumption|omega) [go_sem,xSet_oent m1a,xSet_oent m2a,xFind_oent m1a,xFind_oent m2a,xFind_oent m1b,xFind_oent m2b]
   exact fin_tail (fin_oent (fin_oent (fin_tail (fin_tail (fin_here this)))))
  have yes:fouB g (gr zeroFou g.founders k)=true:=by
   simp only [fouB,q5,Bool.true_and,Bool.and_eq_true,decide_eq_true_eq]; omega
  simp -dsimp -implicitDefEqProofs (disch:=first|with_reducible assumption|omega) [go_sem,xFind_oent m1a,xFind_oent m2a,xFind_oent m1b,xFind_oent m2b]
  refine xnew fun b8 n_b8 h_b8=>?_
  try simp only [Apart] at n_b8
  have n8:=apart_oent (apart_oent n_b8.2)
  simp only [Apart] at n8
  obtain ⟨n82,n81,_⟩:=n8
  refine xx ?_
  refine xappend (t:=25) (e:=22) (sz:=1) (bytes:=8) (by kernel_rfl) tI_22 rfl rfl rfl rfl (by decide) [_,_] _ o1 (g.purses.length+k) (allK g k) i2 (allK_len i1) (Src.own List.mem_cons_self) (m:=1) (news:=[.int .u64 (gr zeroFou g.founders k).bal]) rfl (by intro u hu; simp only [List.mem_singleton] at hu; subst hu; rfl) (by simp [maxLen]; omega) (by omega) ?_
  intro o1' j1 j2 j3
  have j4:=apO_tail (apO_tail j2)
  have j4':=apO_oent j4
  have m1b':apB o1' b1:=(apO_tail j4').head
  have m1a':apB o1' b2:=j4'.head
  simp -dsimp -implicitDefEqProofs (disch:=first|with_reducible assumption|omega) [go_sem,xFind_oent m1b',xFind_oent m2b]
  refine founded_any g.par ok q1 _ hfo ?_
  refine xx ?_
  refine xnew fun b9 n_b9 h_b9=>?_
  try simp only [Apart] at n_b9
  refine xx ?_
  rw [oent_split (e:=22) o1']
  refine xappend (t:=31) (e:=73) (sz:=6) (bytes:=48) (by kernel_rfl) tI_73 rfl rfl rfl rfl (by decide) (_::_::_::oent 22 1 o1' _ []) _ o2 k (memK g k) i3 (memK_len i1) (Src.own List.mem_cons_self) (m:=1) (news:=memC (memF g.par (gr zeroFou g.founders k))) rfl (by intro u hu; simp only [memC,List.mem_cons,List.not_mem_nil,or_false] at hu; rcases hu with rfl | rfl | rfl | rfl | rfl | rfl<;>rfl) (by simp [maxLen]; omega) (by omega) ?_
  intro o2' l1 l2 l3
  have l4:=apO_tail (apO_tail (apO_tail l2))
  have l5:=apO_swap (e2:=73) (sz2:=6) (cs2:=memK g (k+1)) j4' l4
  refine xx ?_
  refine ⟨k+1,o1',o2',⟨by omega,by rw [← Nat.add_assoc]; exact j1,l1,l5.1,l5.2,fun j hj=>?_⟩,by omega,by simp [Ent,List.lookup,Nat.add_assoc],?_⟩
  ·by_cases e:j=k
   ·subst e; exact yes
   ·exact i6 j (by omega)
  ·rw [memK_succ c1,allK_succ c1,← oent_split]
   exact (Drop.tail _ _ _).trans ((Drop.tail _ _ _).trans (Drop.tail _ _ _))
 ·have hkl:k=g.founders.length:=by omega
  subst hkl
  have fall:=all_gr zeroFou (fouB g) g.founders i6
  have eA:allK g g.founders.length=(genAll g).map (.int .u64):=by simp [allK,genAll]
  have lA:(genAll g).length=g.purses.length+g.founders.length:=by simp [genAll]
  obtain ⟨ma,mc,em,_⟩:=ovs_open i3
  rw [eA,em]
  refine xx ?_
  refine call_pub (n:=g.purses.length+g.founders.length) i2 (by simp [lA]) (by omega) i4 fun h1 le1 sl1=>?_
  have iA:Ints h1 .u64 (ovs o1 (g.purses.length+g.founders.length)) (genAll g):=⟨by rw [lA]; exact sl1,fun z hz=>by
   rw [show IntKind.u64.min=0 by decide,show IntKind.u64.max=18446744073709551615 by decide]
   rcases List.mem_append.1 hz with hz | hz
   ·have:=hp.2 z hz
    rwa [show IntKind.u64.min=0 by decide,show IntKind.u64.max=18446744073709551615 by decide] at this
   ·obtain ⟨f,hf1,rfl⟩:=List.mem_map.1 hz
    exact (hg.fo f hf1).b⟩
  refine Spec.ap (msum_any _ iA fun ap=>?_)
  have i5':=apO_next i5 ap
  have ap2:=Ap.oent ap
  simp only [Ap] at ap2
  obtain ⟨p2,p1,_⟩:=ap2
  have no1:newB g=false→K (.tuple #[stV zeroS nilV,.int .i64 240]) L h1:=fun e=>no e h1 le1
  by_cases c2:tot (genAll g)≤18446744073709551615
  ·rw [sumV_ok c2]
   by_cases c3:g.most<tot (genAll g)
   ·have:=no1 (by simp only [newB,decide_eq_false (p:=tot (genAll g)≤g.most) (by omega),Bool.and_false])
    simp -dsimp -implicitDefEqProofs (disch:=first|with_reducible assumption|omega) [go_sem,xSet_oent m2a,xFind_oent m2a,xFind_oent m2b]
    exact fin_oent (fin_tail (fin_tail (fin_here this)))
   have yes:newB g=true:=by
    simp only [newB,q1,q3,fall,Bool.true_and,Bool.and_true,Bool.and_eq_true,decide_eq_true_eq]
    omega
   simp -dsimp -implicitDefEqProofs (disch:=first|with_reducible assumption|omega) [go_sem,xSet_oent m2a,xFind_oent m2a,xFind_oent m2b]
   refine xanyl (.tk 0 (.tk 2 (.tk 4 (.tk 5 (.tk 8 (.tkl 1 (.tkl 3 (.tkl 6 (.or true 7 (.or true 9 (.tk 10 (.or false 11 (.tk 12 (.fin)) (.nil))) (.nil)) (.nil)))))))))) (by kernel_rfl) (by kernel_rfl) _ (Drop.refl _ _) ?_
   simp -dsimp -implicitDefEqProofs (disch:=first|with_reducible assumption|omega) [go_sem,xSet_oent m2a,xFind_oent m2a,xFind_oent m2b]
   refine Spec.ap (clone64_any _ (hp.up le1) (by omega) fun h2 r2 le2 ir2 ap=>?_)
   have i5'':=apO_next i5' ap
   have ap2:=Ap.oent ap
   simp only [Ap] at ap2
   obtain ⟨s2,s1,_⟩:=ap2
   obtain ⟨ra2,rc2,rfl,_⟩:=ir2.open
   refine xkp (Drop.forget le2) ?_
   simp -dsimp -implicitDefEqProofs (disch:=first|with_reducible assumption|omega) [go_sem,xSet_oent m2a,xFind_oent m2a,xFind_oent m2b]
   refine Spec.ap (empty_any fun h3 r3 le3 ir3 ap=>?_)
   have i5''':=apO_next i5'' ap
   have ap2:=Ap.oent ap
   simp only [Ap] at ap2
   obtain ⟨u2,u1,_⟩:=ap2
   obtain ⟨ra3,rc3,rfl,_⟩:=ir3.open
   refine xkp (Drop.forget (le2.trans le3)) ?_
   simp -dsimp -implicitDefEqProofs (disch:=first|with_reducible assumption|omega) [go_sem,xSet_oent m2a,xFind_oent m2a,xFind_oent m2b]
   have eK:memK g g.founders.length=(g.founders.map (memF g.par)).flatMap memC:=by simp [memK]
   have lK:(g.founders.map (memF g.par)).length=g.founders.length:=by simp
   have eR:newR g=newS g:=by rw [newR,yes]; rfl
   rw [eR,yes] at hk
   rw [eK]
   refine fin_pub (e:=73) (n:=g.founders.length) i3 (by rw [flatG_len memC_len,lK]) (by omega) i5''' fun h4 le4 sl4=>?_
   rw [em] at sl4
   have hz0:0≤tot (genAll g):=tot_nonneg fun i=>by
    rcases Nat.lt_or_ge i (genAll g).length with hi | hi
    ·rw [← at0_lt hi]
     have:=iA.2 _ (List.getElem_mem hi)
     rw [show IntKind.u64.min=0 by decide] at this
     exact this.1
    ·simp [at0,List.getD_eq_getElem?_getD,List.getElem?_eq_none hi]
   have hS:IsSt h4 ⟨.slice ra2 g.purses.length rc2,.slice ma g.founders.length mc,.slice none 0 0,.slice none 0 0,.slice none 0 0,.slice none 0 0,.slice none 0 0,.slice ra3 (List.replicate 16 (0:Int)).length rc3,.slice none 0 0⟩ (newS g):=by
    refine ⟨⟨ok,fun z hz=>?_,fun z hz=>?_⟩,ir2.up (le3.trans le4),⟨memC_len,by rw [newS,lK]; exact sl4⟩,fun x hx=>?_,nil_ints h4 .i64,nil_ints h4 .i64,Recs.nil depC_len h4,(fun x hx=>by cases hx),Recs.nil dueC_len h4,(fun x hx=>by cases hx),⟨[],Recs.nil motC_len h4,rfl,fun x hx=>by cases hx⟩,ir3.up le4,⟨[],strs_nil h4,rfl⟩⟩
    ·simp only [newS,List.mem_cons,List.not_mem_nil,or_false] at hz
     omega
    ·simp only [newS,List.mem_cons,List.not_mem_nil,or_false] at hz
     omega
    ·obtain ⟨f,hf1,rfl⟩:=List.mem_map.1 hx
     exact memF_ok (inc_pos q1) ok (hg.fo f hf1)
   exact fin_tail (fin_tail (fin_here (hk h4 _ ((le1.trans le2).trans (le3.trans le4)) hS)))
  ·rw [sumV_no c2]
   have:=no1 (by simp only [newB,decide_eq_false (p:=tot (genAll g)≤g.most) (by omega),Bool.and_false])
   simp -dsimp -implicitDefEqProofs (disch:=first|with_reducible assumption|omega) [go_sem,xSet_oent m2a,xFind_oent m2a,xFind_oent m2b]
   exact fin_oent (fin_tail (fin_tail (fin_here this)))
theorem kn_mul (q y1 y0:Int):q*(y1*4294967296+y0)=q*y1*4294967296+q*y0:=by
 rw [Int.mul_add,← Int.mul_assoc]
structure Kn (v u y1 y0 q r:Int):Prop where
 sum:q*y1+r=v
 q0:0≤q
 q1:q≤4294967297
 r0:0≤r
 up:(v*4294967296+u)/(y1*4294967296+y0)≤q
structure KnH (v u y1 y0:Int):Prop where
 hv:0≤v
 hu:0≤u∧u<4294967296
 h1:2147483648≤y1∧y1<4294967296
 h0:0≤y0∧y0<4294967296
 lt:v<y1*4294967296+y0
theorem kn_init {v u y1 y0:Int} (H:KnH v u y1 y0):Kn v u y1 y0 (v/y1) (v-v/y1*y1):=by
 obtain ⟨v0,u0,h1,h0,lt⟩:=H
 have e:=Int.ediv_mul_add_emod v y1
 have m0:=Int.emod_nonneg v (show y1≠0 by omega)
 have m1:=Int.emod_lt_of_pos v (show 0<y1 by omega)
 have q0:0≤v/y1:=Int.ediv_nonneg v0 (by omega)
 refine ⟨by omega,q0,?_,by omega,?_⟩
 ·have:v/y1<4294967298:=Int.ediv_lt_of_lt_mul (by omega) (by omega)
  omega
 ·refine Int.le_ediv_of_mul_le (by omega) ?_
  generalize hq:(v*4294967296+u)/(y1*4294967296+y0)=q
  have qn:0≤q:=by rw [← hq]; exact Int.ediv_nonneg (by omega) (by omega)
  have a:=Int.ediv_mul_le (v*4294967296+u) (show y1*4294967296+y0≠0 by omega)
  rw [hq,kn_mul] at a
  have b:=Int.mul_nonneg qn h0.1
  omega
theorem kn_stop {v u y1 y0 q r:Int} (H:KnH v u y1 y0) (k:Kn v u y1 y0 q r) (c:q*y0≤4294967296*r+u):q=(v*4294967296+u)/(y1*4294967296+y0):=by
 obtain ⟨v0,u0,h1,h0,lt⟩:=H
 refine Int.le_antisymm (Int.le_ediv_of_mul_le (by omega) ?_) k.up
 rw [kn_mul]
 have:=k.sum
 omega
theorem kn_brk {v u y1 y0 q r:Int} (H:KnH v u y1 y0) (k:Kn v u y1 y0 q r) (hq:q≤4294967296) (hr:4294967296≤r):q=(v*4294967296+u)/(y1*4294967296+y0):=by
 refine kn_stop H k ?_
 have:=Int.mul_le_mul_of_nonneg_right hq H.h0.1
 have:=H.h0
 have:=H.hu
 omega
theorem kn_go {v u y1 y0 q r:Int} (H:KnH v u y1 y0) (k:Kn v u y1 y0 q r) (c:4294967296≤q∨4294967296*r+u<q*y0):Kn v u y1 y0 (q-1) (r+y1)∧1≤q:=by
 obtain ⟨v0,u0,h1,h0,lt⟩:=H
 obtain ⟨s,q0,q1,r0,up⟩:=k
 have hq0:0≤(v*4294967296+u)/(y1*4294967296+y0):=Int.ediv_nonneg (by omega) (by omega)
 have hlt:(v*4294967296+u)/(y1*4294967296+y0)<q:=by
  rcases c with c | c
  ·refine Int.lt_of_lt_of_le (Int.ediv_lt_of_lt_mul (b:=4294967296) (by omega) (by omega)) c
  ·refine Int.ediv_lt_of_lt_mul (by omega) ?_
   rw [kn_mul]
   omega
 refine ⟨⟨?_,by omega,by omega,by omega,by omega⟩,by omega⟩
 rw [Int.sub_mul,Int.one_mul]
 omega
theorem kn_two (v u1 u0 y:Int) (hy:0<y) (h0:0≤u0) (h0':u0<4294967296):((v*4294967296+u1)*4294967296+u0)/y=(v*4294967296+u1)/y*4294967296+((v*4294967296+u1)%y*4294967296+u0)/y ∧
  ((v*4294967296+u1)*4294967296+u0)%y=((v*4294967296+u1)%y*4294967296+u0)%y:=by
 have e:=Int.ediv_mul_add_emod (v*4294967296+u1) y
 generalize (v*4294967296+u1)/y=q1 at *
 generalize (v*4294967296+u1)%y=r1 at *
 rw [← e]
 have e2:(q1*y+r1)*4294967296+u0=(r1*4294967296+u0)+(q1*4294967296)*y:=by
  rw [Int.add_mul,Int.mul_assoc,Int.mul_comm y,← Int.mul_assoc]; omega
 rw [e2,Int.add_mul_ediv_right _ _ (by omega),Int.add_mul_emod_self_right]
 exact ⟨Int.add_comm _ _,rfl⟩
theorem kn_norm (n y s:Int) (hs:0<s):n*s/(y*s)=n/y∧n*s%(y*s)/s=n%y:=by
 refine ⟨by rw [Int.mul_ediv_mul_of_pos_left _ _ hs],?_⟩
 rw [Int.mul_comm n,Int.mul_comm y,Int.mul_emod_mul_of_pos _ _ hs,Int.mul_ediv_cancel_left _ (by omega)]
theorem kn_or (a b s:Nat) (hs:s≤64) (hb:b<2 ^ s):(a*2 ^ s) ||| b=a*2 ^ s+b:=by
 rw [Nat.mul_comm]
 exact (Nat.two_pow_add_eq_or_of_lt hb a).symm
theorem pow_shl (y:Int) (n:Nat) (hn:1≤n∧n≤64) (h1:2 ^ (n-1)≤y) (h2:y<2 ^ n):9223372036854775808≤y*2 ^ (64-n)∧y*2 ^ (64-n)<18446744073709551616:=by
 have p:(0:Int)<2 ^ (64-n):=Int.pow_pos (by decide)
 have e1:(2:Int) ^ (n-1)*2 ^ (64-n)=9223372036854775808:=by
  rw [← Int.pow_add,show n-1+(64-n)=63 by omega]; decide
 have e2:(2:Int) ^ n*2 ^ (64-n)=18446744073709551616:=by
  rw [← Int.pow_add,show n+(64-n)=64 by omega]; decide
 have h3:=Int.mul_le_mul_of_nonneg_right h1 (Int.le_of_lt p)
 have h4:=Int.mul_lt_mul_of_pos_right h2 p
 omega
def bl (j:Nat):Nat:=if j=0 then 0 else Nat.log2 j+1
theorem bl_ok:∀ j,j<256→1≤j→1≤bl j∧bl j≤8∧(2:Int) ^ (bl j-1)≤(j:Int)∧(j:Int)<2 ^ bl j:=by decide +kernel
theorem len_end {x t:Int} (c:Nat) (hc:c≤56) (ht:t=x/2 ^ c) (h:1≤t∧t≤255):(1≤c+bl t.toNat∧c+bl t.toNat≤64)∧2 ^ (c+bl t.toNat-1)≤x∧x<2 ^ (c+bl t.toNat):=by
 obtain ⟨b1,b2,b3,b4⟩:=bl_ok t.toNat (by omega) (by omega)
 rw [Int.toNat_of_nonneg (by omega)] at b3 b4
 generalize bl t.toNat=n at *
 have p:(0:Int)<2 ^ c:=Int.pow_pos (by decide)
 have d:=Int.ediv_mul_add_emod x (2 ^ c)
 have m0:=Int.emod_nonneg x (show (2:Int) ^ c≠0 by omega)
 have m1:=Int.emod_lt_of_pos x p
 rw [← ht] at d
 refine ⟨by omega,?_,?_⟩
 ·rw [show c+n-1=(n-1)+c by omega,Int.pow_add]
  have:=Int.mul_le_mul_of_nonneg_right b3 (Int.le_of_lt p)
  omega
 ·rw [show c+n=n+c by omega,Int.pow_add]
  have h1:t+1≤2 ^ n:=b4
  have:=Int.mul_le_mul_of_nonneg_right h1 (Int.le_of_lt p)
  rw [Int.add_mul,Int.one_mul] at this
  omega
theorem xIx_len {P:Program} {t:Nat} (ht:P.underlying t=some .string) (S:ByteArray) (k:IntKind) (i:Int) (hi:0≤i∧i≤255) (hS:((List.range 256).all fun j=>S[j]? == some (UInt8.ofNat (bl j)))=true) (K:Value→Prop) (tk:Tok K) :
  xIx P t (.string S) (.int k i) K tk=K (.int .u8 (bl i.toNat:Nat)):=by
 have h1:=List.all_eq_true.1 hS i.toNat (List.mem_range.2 (by omega))
 have h2:S[i.toNat]?=some (UInt8.ofNat (bl i.toNat)):=by simpa using h1
 have h3:(UInt8.ofNat (bl i.toNat)).toNat=bl i.toNat:=by
  by_cases c:i.toNat=0
  ·rw [c]; rfl
  ·have:=(bl_ok i.toNat (by omega) (by omega)).2.1
   rw [UInt8.toNat_ofNat']
   omega
 refine xRun_of (fun W=>?_) K
 simp [Instr.index,asIntOf,underlying,ht,hi.1,h2,h3,go_sem]
theorem len64_any (x:Int) (hx:1≤x∧x≤18446744073709551615) (hk:∀ n:Nat,1≤n∧n≤64→2 ^ (n-1)≤x→x<2 ^ n→K (.int .i64 n) L h):Spec Tryz.prog 381 [.int .u64 x] L h K:=by
 have e:∀ (c:Nat) (t:Int),c≤56→t=x/2 ^ c→1≤t∧t≤255→K (.int .i64 ((c:Int)+(bl t.toNat:Nat))) L h:=fun c t hc ht h1=>by
  obtain ⟨a,b,d⟩:=len_end c hc ht h1
  have:=hk _ a b d
  rwa [Int.natCast_add] at this
 refine x_enter Tryz.func381 rfl (rs:=[_]) rfl rfl mixed (by kernel_rfl) rfl rfl ?_
 by_cases c1:4294967296≤x
 ·by_cases c2:65536≤x/4294967296
  ·by_cases c3:256≤x/4294967296/65536
   ·have b8:=(bl_ok (x/4294967296/65536/256).toNat (by omega) (by omega)).2.1
    have:=e 56 (x/4294967296/65536/256) (by decide) (by omega) (by omega)
    simp -dsimp -implicitDefEqProofs (disch:=first|with_reducible assumption|omega) [go_sem,IntKind.bits]
    rw [xIx_len (by kernel_rfl) _ _ _ (by omega) (by decide +kernel)]
    refine xx ?_
    exact fin_here this
   ·have b8:=(bl_ok (x/4294967296/65536).toNat (by omega) (by omega)).2.1
    have:=e 48 (x/4294967296/65536) (by decide) (by omega) (by omega)
    simp -dsimp -implicitDefEqProofs (disch:=first|with_reducible assumption|omega) [go_sem,IntKind.bits]
    rw [xIx_len (by kernel_rfl) _ _ _ (by omega) (by decide +kernel)]
    refine xx ?_
    exact fin_here this
  ·by_cases c3:256≤x/4294967296
   ·have b8:=(bl_ok (x/4294967296/256).toNat (by omega) (by omega)).2.1
    have:=e 40 (x/4294967296/256) (by decide) (by omega) (by omega)
    simp -dsimp -implicitDefEqProofs (disch:=first|with_reducible assumption|omega) [go_sem,IntKind.bits]
    rw [xIx_len (by kernel_rfl) _ _ _ (by omega) (by decide +kernel)]
    refine xx ?_
    exact fin_here this
   ·have b8:=(bl_ok (x/4294967296).toNat (by omega) (by omega)).2.1
    have:=e 32 (x/4294967296) (by decide) (by omega) (by omega)
    simp -dsimp -implicitDefEqProofs (disch:=first|with_reducible assumption|omega) [go_sem,IntKind.bits]
    rw [xIx_len (by kernel_rfl) _ _ _ (by omega) (by decide +kernel)]
    refine xx ?_
    exact fin_here this
 ·by_cases c2:65536≤x
  ·by_cases c3:256≤x/65536
   ·have b8:=(bl_ok (x/65536/256).toNat (by omega) (by omega)).2.1
    have:=e 24 (x/65536/256) (by decide) (by omega) (by omega)
    simp -dsimp -implicitDefEqProofs (disch:=first|with_reducible assumption|omega) [go_sem,IntKind.bits]
    rw [xIx_len (by kernel_rfl) _ _ _ (by omega) (by decide +kernel)]
    refine xx ?_
    exact fin_here this
   ·have b8:=(bl_ok (x/65536).toNat (by omega) (by omega)).2.1
    have:=e 16 (x/65536) (by decide) (by omega) (by omega)
    simp -dsimp -implicitDefEqProofs (disch:=first|with_reducible assumption|omega) [go_sem,IntKind.bits]
    rw [xIx_len (by kernel_rfl) _ _ _ (by omega) (by decide +kernel)]
    refine xx ?_
    exact fin_here this
  ·by_cases c3:256≤x
   ·have b8:=(bl_ok (x/256).toNat (by omega) (by omega)).2.1
    have:=e 8 (x/256) (by decide) (by omega) (by omega)
    simp -dsimp -implicitDefEqProofs (disch:=first|with_reducible assumption|omega) [go_sem,IntKind.bits]
    rw [xIx_len (by kernel_rfl) _ _ _ (by omega) (by decide +kernel)]
    refine xx ?_
    exact fin_here this
   ·have b8:=(bl_ok x.toNat (by omega) (by omega)).2.1
    have:=e 0 x (by decide) (by simp) (by omega)
    simp only [Int.natCast_zero,Int.cast_ofNat_Int,Int.zero_add] at this
    simp -dsimp -implicitDefEqProofs (disch:=first|with_reducible assumption|omega) [go_sem,IntKind.bits]
    rw [xIx_len (by kernel_rfl) _ _ _ (by omega) (by decide +kernel)]
    refine xx ?_
    exact fin_here this
theorem or_any (a b:Int) (s:Nat) (hs:s≤63) (ha:0≤a) (hb:0≤b∧b<2 ^ s) (hab:a*2 ^ s+b≤18446744073709551615):bits .or .u64 (a*2 ^ s) b=a*2 ^ s+b:=by
 obtain ⟨x,rfl⟩:=Int.eq_ofNat_of_zero_le ha
 obtain ⟨y,rfl⟩:=Int.eq_ofNat_of_zero_le hb.1
 have hy:y<2 ^ s:=by exact_mod_cast hb.2
 have e:(x:Int)*2 ^ s=((x*2 ^ s:Nat):Int):=by push_cast; rfl
 have k:=kn_or x y s (by omega) hy
 rw [e] at hab ⊢
 generalize x*2 ^ s=z at *
 rw [u64_or_nat z y (by omega) (by omega),k,Int.natCast_add]
theorem lz_any (x:Int) (hx:1≤x∧x≤18446744073709551615) (hk:∀ n:Nat,1≤n∧n≤64→2 ^ (n-1)≤x→x<2 ^ n→K (.int .i64 (64-n)) L h):Spec Tryz.prog 380 [.int .u64 x] L h K:=by
 refine x_enter Tryz.func380 rfl (rs:=[_]) rfl rfl mixed (by kernel_rfl) rfl rfl ?_
 refine xx ?_
 refine len64_any x hx fun n hn h1 h2=>?_
 have:=hk n hn h1 h2
 refine xx ?_
 exact fin_here this
theorem kn_wrap (x u q y r:Int) (e:q*y+r=x*4294967296+u) (hr:0≤r∧r≤18446744073709551615):IntKind.u64.wrap (IntKind.u64.wrap (IntKind.u64.wrap (x*4294967296)+u)-IntKind.u64.wrap (q*y))=r:=by
 simp only [wrap_u64_mod]
 generalize q*y=z at *
 omega
theorem div_parts (a b S T:Int) (hS:1≤S) (hT:1≤T) (hST:S*T=18446744073709551616) (hb:0≤b∧b≤18446744073709551615):0≤b/T∧b/T<S∧(a*18446744073709551616+b)*S=(a*S+b/T)*18446744073709551616+b*S%18446744073709551616:=by
 have h0:=Int.ediv_nonneg hb.1 (show 0≤T by omega)
 have h1:b/T<S:=Int.ediv_lt_of_lt_mul (by omega) (by omega)
 have d:=Int.ediv_mul_add_emod b T
 have m0:=Int.emod_nonneg b (show T≠0 by omega)
 have m1:=Int.emod_lt_of_pos b (show 0<T by omega)
 have e:b*S=b/T*18446744073709551616+b%T*S:=by
  rw [← hST,← Int.mul_assoc,Int.mul_right_comm,← Int.add_mul,d]
 have l0:=Int.mul_nonneg m0 (show 0≤S by omega)
 have l1:b%T*S<18446744073709551616:=by
  rw [← hST,Int.mul_comm S T]
  exact Int.mul_lt_mul_of_pos_right m1 (by omega)
 refine ⟨h0,h1,?_⟩
 rw [Int.add_mul,Int.add_mul,e,Int.mul_right_comm]
 generalize b%T*S=z at *
 generalize b/T=w at *
 generalize a*S=x at *
 omega
theorem div64_big (a b c:Int) (ha:1≤a∧a<c) (hb:0≤b∧b≤18446744073709551615) (hc:c≤18446744073709551615) (hk:K (.tuple #[.int .u64 ((a*18446744073709551616+b)/c),.int .u64 ((a*18446744073709551616+b)%c)]) L h):Spec Tryz.prog 378 [.int .u64 a,.int .u64 b,.int .u64 c] L h K:=by
 refine x_enter Tryz.func378 rfl (rs:=[_,_]) rfl rfl mixed (by kernel_rfl) rfl rfl ?_
 refine xx ?_
 refine lz_any c (by omega) fun n hn g1 g2=>?_
 obtain ⟨hy1,hy2⟩:=pow_shl c n hn g1 g2
 obtain ⟨s,hs⟩:∃ s,s=64-n:=⟨_,rfl⟩
 obtain ⟨S,hS⟩:∃ S,S=(2:Int) ^ s:=⟨_,rfl⟩
 obtain ⟨T,hT⟩:∃ T,T=(2:Int) ^ n:=⟨_,rfl⟩
 have hS1:1≤S:=by rw [hS]; exact Int.pow_pos (by decide)
 have hT1:1≤T:=by rw [hT]; exact Int.pow_pos (by decide)
 have hST:S*T=18446744073709551616:=by
  rw [hS,hT,← Int.pow_add,show s+n=64 by omega]; decide
 rw [← hs,← hS] at hy1 hy2
 obtain ⟨w0,w1,hN⟩:=div_parts a b S T hS1 hT1 hST hb
 obtain ⟨w,hw⟩:∃ w,w=b/T:=⟨_,rfl⟩
 rw [← hw] at w0 w1 hN
 have haS:a*S+w<c*S:=by
  have:(a+1)*S≤c*S:=Int.mul_le_mul_of_nonneg_right (by omega) (by omega)
  rw [Int.add_mul] at this
  omega
 have ha0:=Int.mul_nonneg (show 0≤a by omega) (show 0≤S by omega)
 have hor:bits .or .u64 (a*S) w=a*S+w:=by
  rw [hS] at w1 haS hy2 ⊢
  exact or_any a w s (by omega) (by omega) ⟨w0,w1⟩ (by omega)
 obtain ⟨e3,e4⟩:=kn_norm (a*18446744073709551616+b) c S (by omega)
 rw [hN] at e3 e4
 rw [← e3,← e4] at hk
 have hbS:=Int.mul_nonneg hb.1 (show 0≤S by omega)
 obtain ⟨u,hu⟩:∃ u,u=b*S%18446744073709551616:=⟨_,rfl⟩
 rw [← hu] at hk
 have hu1:0≤u∧u<18446744073709551616:=by omega
 obtain ⟨y,hy⟩:∃ y,y=c*S:=⟨_,rfl⟩
 rw [← hy] at hy1 hy2 haS hk
 obtain ⟨v,hv⟩:∃ v,v=a*S+w:=⟨_,rfl⟩
 rw [← hv] at haS hor hk
 have hv0:1≤v:=by
  have:=Int.mul_le_mul_of_nonneg_right (show 1≤a by omega) (show 0≤S by omega)
  omega
 have hy32:=and_low32 y (by omega) hy2
 have hu32:=and_low32 u hu1.1 hu1.2
 have huw:IntKind.u64.wrap (b*S)=u:=by rw [wrap_u64_mod,hu]
 have has:a*S≤18446744073709551615:=by omega
 clear hN e3 e4 hbS hST hT1 g1 g2
 have e5:((64:Int)-(64-n)).toNat=n:=by omega
 obtain ⟨y1,hy1'⟩:∃ y1,y1=y/4294967296:=⟨_,rfl⟩
 obtain ⟨y0,hy0'⟩:∃ y0,y0=y%4294967296:=⟨_,rfl⟩
 obtain ⟨u1,hu1'⟩:∃ u1,u1=u/4294967296:=⟨_,rfl⟩
 obtain ⟨u0,hu0'⟩:∃ u0,u0=u%4294967296:=⟨_,rfl⟩
 have hyy:y1*4294967296+y0=y:=by omega
 have hu1b:0≤u1∧u1≤4294967295:=by omega
 have hu0b:0≤u0∧u0≤4294967295:=by omega
 have hy1b:2147483648≤y1∧y1≤4294967295:=by omega
 have hy0b:0≤y0∧y0≤4294967295:=by omega
 have H1:KnH v u1 y1 y0:=⟨by omega,by omega,by omega,by omega,by omega⟩
 have I1:=kn_init H1
 have I1q:=I1.q1
 have I1n:=I1.q0
 have I1r:=I1.r0
 have I1p:0≤v/y1*y1:=Int.mul_nonneg I1n (by omega)
 have I1s:v-v/y1*y1<4294967296:=by
  have d:=Int.ediv_mul_add_emod v y1
  have m1:=Int.emod_lt_of_pos v (show 0<y1 by omega)
  omega
 obtain ⟨two1,two2⟩:=kn_two v u1 u0 y (by omega) hu0b.1 (by omega)
 rw [show v*18446744073709551616+u=(v*4294967296+u1)*4294967296+u0 by omega,two1,two2] at hk
 obtain ⟨D1,hD1⟩:∃ D,D=(v*4294967296+u1)/y:=⟨_,rfl⟩
 obtain ⟨R1,hR1⟩:∃ R,R=(v*4294967296+u1)%y:=⟨_,rfl⟩
 have dR1:D1*y+R1=v*4294967296+u1:=by rw [hD1,hR1]; exact Int.ediv_mul_add_emod _ _
 have bR1:0≤R1∧R1<y:=by rw [hR1]; exact ⟨Int.emod_nonneg _ (by omega),Int.emod_lt_of_pos _ (by omega)⟩
 have bD1:0≤D1∧D1≤4294967295:=by
  rw [hD1]
  refine ⟨Int.ediv_nonneg (by omega) (by omega),?_⟩
  have:(v*4294967296+u1)/y<4294967296:=Int.ediv_lt_of_lt_mul (by omega) (by omega)
  omega
 rw [← hD1,← hR1] at hk
 obtain ⟨D2,hD2⟩:∃ D,D=(R1*4294967296+u0)/y:=⟨_,rfl⟩
 obtain ⟨R2,hR2⟩:∃ R,R=(R1*4294967296+u0)%y:=⟨_,rfl⟩
 have dR2:D2*y+R2=R1*4294967296+u0:=by rw [hD2,hR2]; exact Int.ediv_mul_add_emod _ _
 have bR2:0≤R2∧R2<y:=by rw [hR2]; exact ⟨Int.emod_nonneg _ (by omega),Int.emod_lt_of_pos _ (by omega)⟩
 have bD2:0≤D2∧D2≤4294967295:=by
  rw [hD2]
  refine ⟨Int.ediv_nonneg (by omega) (by omega),?_⟩
  have:(R1*4294967296+u0)/y<4294967296:=Int.ediv_lt_of_lt_mul (by omega) (by omega)
  omega
 rw [← hD2,← hR2] at hk
 have H2:KnH R1 u0 y1 y0:=⟨by omega,by omega,by omega,by omega,by omega⟩
 have I2:=kn_init H2
 have I2q:=I2.q1
 have I2n:=I2.q0
 have I2r:=I2.r0
 have I2p:0≤R1/y1*y1:=Int.mul_nonneg I2n (by omega)
 have I2s:R1-R1/y1*y1<4294967296:=by
  have d:=Int.ediv_mul_add_emod R1 y1
  have m1:=Int.emod_lt_of_pos R1 (show 0<y1 by omega)
  omega
 have W1:=kn_wrap v u1 D1 y R1 dR1 (by omega)
 have W2:=kn_wrap R1 u0 D2 y R2 dR2 (by omega)
 simp -dsimp -implicitDefEqProofs (disch:=first|with_reducible assumption|omega) [go_sem,IntKind.bits,← hs,← hS,e5,← hT,← hw,← hy,hor,huw,hy32,hu32,← hy1',← hy0',← hu1',← hu0']
 clear hor hw ha0 has huw hu hv w0 w1 hy32 hu32 two1 two2
 clear hb ha hc hu1 hv0 hu1' hu0' hy1' hy0' hy hy1
 refine xloop' (γ:=Int×Int) (v/y1,v-v/y1*y1) (fun s=>Kn v u1 y1 y0 s.1 s.2∧s.2<4294967296) (fun s=>[(15,.int .u64 s.1),(16,.int .u64 s.2),(2,.int .u64 y),(8,.int .u64 (64-n)),(9,.int .u64 y1),(10,.int .u64 y0),(11,.int .u64 v),(13,.int .u64 u1),(14,.int .u64 u0)]) (fun s=>s.1.toNat) ?_ ?_ ?_
 ·exact ⟨I1,I1s⟩
 ·simp [Ent,List.lookup]
 rintro ⟨q,r⟩ ⟨k,hr⟩
 simp only at k hr ⊢
 have kq:=k.q0
 have kq1:=k.q1
 have kr:=k.r0
 by_cases c1:q<4294967296
 ·have hp:=prod_bound q y0 kq (by omega) hy0b.1 hy0b.2
  by_cases c2:4294967296*r+u1<q*y0
  ·obtain ⟨k2,hq1⟩:=kn_go H1 k (.inr c2)
   by_cases c3:4294967296≤r+y1
   ·have hq:=kn_brk H1 k2 (by omega) c3
    rw [hyy,← hD1] at hq
    refine xx ?_
    simp only [hq,W1]
    simp -dsimp -implicitDefEqProofs (disch:=first|with_reducible assumption|omega) [go_sem,hq,W1]
    clear k kq kq1 kr hq
    refine xloop' (γ:=Int×Int) (R1/y1,R1-R1/y1*y1) (fun s=>Kn R1 u0 y1 y0 s.1 s.2∧s.2<4294967296) (fun s=>[(18,.int .u64 s.1),(16,.int .u64 s.2),(2,.int .u64 y),(8,.int .u64 (64-n)),(9,.int .u64 y1),(10,.int .u64 y0),(14,.int .u64 u0),(15,.int .u64 D1),(17,.int .u64 R1)]) (fun s=>s.1.toNat) ?_ ?_ ?_
    ·exact ⟨I2,I2s⟩
    ·simp [Ent,List.lookup]
    rintro ⟨q,r⟩ ⟨k,hr⟩
    simp only at k hr ⊢
    have kq:=k.q0
    have kq1:=k.q1
    have kr:=k.r0
    by_cases c1:q<4294967296
    ·have hp:=prod_bound q y0 kq (by omega) hy0b.1 hy0b.2
     by_cases c2:4294967296*r+u0<q*y0
     ·obtain ⟨k2,hq1⟩:=kn_go H2 k (.inr c2)
      by_cases c3:4294967296≤r+y1
      ·have hq:=kn_brk H2 k2 (by omega) c3
       rw [hyy,← hD2] at hq
       refine xx ?_
       simp only [hq,W2,← hs,← hS]
       exact fin_here hk
      ·refine xx ?_
       exact ⟨q-1,r+y1,⟨k2,by omega⟩,by omega,by simp [Ent,List.lookup],Drop.refl _ _⟩
     ·have hq:=kn_stop H2 k (by omega)
      rw [hyy,← hD2] at hq
      refine xx ?_
      simp only [hq,W2,← hs,← hS]
      exact fin_here hk
    ·obtain ⟨k2,hq1⟩:=kn_go H2 k (.inl (by omega))
     by_cases c3:4294967296≤r+y1
     ·have hq:=kn_brk H2 k2 (by omega) c3
      rw [hyy,← hD2] at hq
      refine xx ?_
      simp only [hq,W2,← hs,← hS]
      exact fin_here hk
     ·refine xx ?_
      exact ⟨q-1,r+y1,⟨k2,by omega⟩,by omega,by simp [Ent,List.lookup],Drop.refl _ _⟩
   ·refine xx ?_
    exact ⟨q-1,r+y1,⟨k2,by omega⟩,by omega,by simp [Ent,List.lookup],Drop.refl _ _⟩
  ·have hq:=kn_stop H1 k (by omega)
   rw [hyy,← hD1] at hq
   refine xx ?_
   simp only [hq,W1]
   simp -dsimp -implicitDefEqProofs (disch:=first|with_reducible assumption|omega) [go_sem,hq,W1]
   clear k kq kq1 kr hq
   refine xloop' (γ:=Int×Int) (R1/y1,R1-R1/y1*y1) (fun s=>Kn R1 u0 y1 y0 s.1 s.2∧s.2<4294967296) (fun s=>[(18,.int .u64 s.1),(16,.int .u64 s.2),(2,.int .u64 y),(8,.int .u64 (64-n)),(9,.int .u64 y1),(10,.int .u64 y0),(14,.int .u64 u0),(15,.int .u64 D1),(17,.int .u64 R1)]) (fun s=>s.1.toNat) ?_ ?_ ?_
   ·exact ⟨I2,I2s⟩
   ·simp [Ent,List.lookup]
   rintro ⟨q,r⟩ ⟨k,hr⟩
   simp only at k hr ⊢
   have kq:=k.q0
   have kq1:=k.q1
   have kr:=k.r0
   by_cases c1:q<4294967296
   ·have hp:=prod_bound q y0 kq (by omega) hy0b.1 hy0b.2
    by_cases c2:4294967296*r+u0<q*y0
    ·obtain ⟨k2,hq1⟩:=kn_go H2 k (.inr c2)
     by_cases c3:4294967296≤r+y1
     ·have hq:=kn_brk H2 k2 (by omega) c3
      rw [hyy,← hD2] at hq
      refine xx ?_
      simp only [hq,W2,← hs,← hS]
      exact fin_here hk
     ·refine xx ?_
      exact ⟨q-1,r+y1,⟨k2,by omega⟩,by omega,by simp [Ent,List.lookup],Drop.refl _ _⟩
    ·have hq:=kn_stop H2 k (by omega)
     rw [hyy,← hD2] at hq
     refine xx ?_
     simp only [hq,W2,← hs,← hS]
     exact fin_here hk
   ·obtain ⟨k2,hq1⟩:=kn_go H2 k (.inl (by omega))
    by_cases c3:4294967296≤r+y1
    ·have hq:=kn_brk H2 k2 (by omega) c3
     rw [hyy,← hD2] at hq
     refine xx ?_
     simp only [hq,W2,← hs,← hS]
     exact fin_here hk
    ·refine xx ?_
     exact ⟨q-1,r+y1,⟨k2,by omega⟩,by omega,by simp [Ent,List.lookup],Drop.refl _ _⟩
 ·obtain ⟨k2,hq1⟩:=kn_go H1 k (.inl (by omega))
  by_cases c3:4294967296≤r+y1
  ·have hq:=kn_brk H1 k2 (by omega) c3
   rw [hyy,← hD1] at hq
   refine xx ?_
   simp only [hq,W1]
   simp -dsimp -implicitDefEqProofs (disch:=first|with_reducible assumption|omega) [go_sem,hq,W1]
   clear k kq kq1 kr hq
   refine xloop' (γ:=Int×Int) (R1/y1,R1-R1/y1*y1) (fun s=>Kn R1 u0 y1 y0 s.1 s.2∧s.2<4294967296) (fun s=>[(18,.int .u64 s.1),(16,.int .u64 s.2),(2,.int .u64 y),(8,.int .u64 (64-n)),(9,.int .u64 y1),(10,.int .u64 y0),(14,.int .u64 u0),(15,.int .u64 D1),(17,.int .u64 R1)]) (fun s=>s.1.toNat) ?_ ?_ ?_
   ·exact ⟨I2,I2s⟩
   ·simp [Ent,List.lookup]
   rintro ⟨q,r⟩ ⟨k,hr⟩
   simp only at k hr ⊢
   have kq:=k.q0
   have kq1:=k.q1
   have kr:=k.r0
   by_cases c1:q<4294967296
   ·have hp:=prod_bound q y0 kq (by omega) hy0b.1 hy0b.2
    by_cases c2:4294967296*r+u0<q*y0
    ·obtain ⟨k2,hq1⟩:=kn_go H2 k (.inr c2)
     by_cases c3:4294967296≤r+y1
     ·have hq:=kn_brk H2 k2 (by omega) c3
      rw [hyy,← hD2] at hq
      refine xx ?_
      simp only [hq,W2,← hs,← hS]
      exact fin_here hk
     ·refine xx ?_
      exact ⟨q-1,r+y1,⟨k2,by omega⟩,by omega,by simp [Ent,List.lookup],Drop.refl _ _⟩
    ·have hq:=kn_stop H2 k (by omega)
     rw [hyy,← hD2] at hq
     refine xx ?_
     simp only [hq,W2,← hs,← hS]
     exact fin_here hk
   ·obtain ⟨k2,hq1⟩:=kn_go H2 k (.inl (by omega))
    by_cases c3:4294967296≤r+y1
    ·have hq:=kn_brk H2 k2 (by omega) c3
     rw [hyy,← hD2] at hq
     refine xx ?_
     simp only [hq,W2,← hs,← hS]
     exact fin_here hk
    ·refine xx ?_
     exact ⟨q-1,r+y1,⟨k2,by omega⟩,by omega,by simp [Ent,List.lookup],Drop.refl _ _⟩
  ·refine xx ?_
   exact ⟨q-1,r+y1,⟨k2,by omega⟩,by omega,by simp [Ent,List.lookup],Drop.refl _ _⟩
def dwE (a b c:Int):Int:=if c=0 then 20 else if a*b/c≤18446744073709551615 then 0 else 10
def dwN (a b c:Int):Int:=if dwE a b c=0 then a*b/c else 0
def uqQ (a b c:Int):Int:=if a*b%c=0 then a*b/c else a*b/c+1
def uqE (a b c:Int):Int:=if c=0 then 20 else if uqQ a b c≤18446744073709551615 then 0 else 10
def uqN (a b c:Int):Int:=if uqE a b c=0 then uqQ a b c else 0
theorem dwN_b {a b c:Int} (ha:0≤a) (hb:0≤b) (hc:0≤c):0≤dwN a b c∧dwN a b c≤18446744073709551615:=by
 have:=Int.ediv_nonneg (Int.mul_nonneg ha hb) hc
 by_cases e:dwE a b c=0
 ·rw [dwN,if_pos e]
  unfold dwE at e
  refine ⟨this,Int.not_lt.1 fun c2=>?_⟩
  split at e
  ·cases e
  ·rw [if_neg (by omega)] at e
   cases e
 ·rw [dwN,if_neg e]; decide
theorem uqN_b {a b c:Int} (ha:0≤a) (hb:0≤b) (hc:0≤c):0≤uqN a b c∧uqN a b c≤18446744073709551615:=by
 have:=Int.ediv_nonneg (Int.mul_nonneg ha hb) hc
 have h2:0≤uqQ a b c:=by unfold uqQ; split<;>omega
 by_cases e:uqE a b c=0
 ·rw [uqN,if_pos e]
  unfold uqE at e
  refine ⟨h2,Int.not_lt.1 fun c2=>?_⟩
  split at e
  ·cases e
  ·rw [if_neg (by omega)] at e
   cases e
 ·rw [uqN,if_neg e]; decide
theorem div64_small (b c:Int) (hb:0≤b∧b≤18446744073709551615) (hc:1≤c∧c≤18446744073709551615) (hk:K (.tuple #[.int .u64 (b/c),.int .u64 (b%c)]) L h):Spec Tryz.prog 378 [.int .u64 0,.int .u64 b,.int .u64 c] L h K:=by
 have h1:=Int.ediv_nonneg hb.1 (show 0≤c by omega)
 have h2:b/c≤b:=Int.ediv_le_self _ hb.1
 have h3:=Int.emod_nonneg b (show c≠0 by omega)
 have h4:=Int.emod_lt_of_pos b (show 0<c by omega)
 refine x_enter Tryz.func378 rfl (rs:=[_,_]) rfl rfl mixed (by kernel_rfl) rfl rfl ?_
 refine xx ?_
 refine xanyl (.tk 0 (.tk 1 (.tk 2 (.tk 3 (.tk 4 (.tk 5 (.tk 6 (.tk 7 (.fin))))))))) (by kernel_rfl) (by kernel_rfl) _ (Drop.refl _ _) ?_
 refine xx ?_
 exact fin_here hk
def rsN (a b c:Int):Int:=if dwE a b c=0 then a*b%c else 0
theorem dw_part {t x w:Int} (ht:0≤t) (hx:0≤x) (hxw:x≤w) (htm:t≤18446744073709551615) (hw:0<w):dwN t x w=t*x/w∧dwE t x w=0:=by
 have h1:t*x≤t*w:=Int.mul_le_mul_of_nonneg_left hxw ht
 have h2:t*x/w≤t*w/w:=Int.ediv_le_ediv hw h1
 rw [Int.mul_ediv_cancel _ (by omega)] at h2
 have e:dwE t x w=0:=by rw [dwE,if_neg (by omega),if_pos (by omega)]
 exact ⟨by rw [dwN,if_pos e],e⟩
theorem div64_any (a b c:Int) (ha:0≤a∧a<c) (hb:0≤b∧b≤18446744073709551615) (hc:c≤18446744073709551615) (hk:K (.tuple #[.int .u64 ((a*18446744073709551616+b)/c),.int .u64 ((a*18446744073709551616+b)%c)]) L h):Spec Tryz.prog 378 [.int .u64 a,.int .u64 b,.int .u64 c] L h K:=by
 by_cases e:a=0
 ·subst e
  simp only [Int.zero_mul,Int.zero_add] at hk
  exact div64_small b c hb ⟨by omega,hc⟩ hk
 ·exact div64_big a b c ⟨by omega,ha.2⟩ hb hc hk
theorem by_any (n c:Int) (hn:0≤n∧n/18446744073709551616≤18446744073709551615) (hc:1≤c∧c≤18446744073709551615) (hk:K (if n/c≤18446744073709551615 then .tuple #[.int .u64 (n/c),.int .u64 (n%c),.bool true] else .tuple #[.int .u64 0,.int .u64 0,.bool false]) L h) :
  Spec Tryz.prog 374 [.agg #[.int .u64 (n/18446744073709551616),.int .u64 (n%18446744073709551616)],.int .u64 c] L h K:=by
 have e0:n/18446744073709551616*18446744073709551616+n%18446744073709551616=n:=by omega
 refine x_enter Tryz.func374 rfl (rs:=[_,_,_]) rfl rfl mixed (by kernel_rfl) rfl rfl ?_
 refine xx ?_
 refine xnew fun b2 n_b2 h_b2=>?_
 try simp only [Apart] at n_b2
 refine xx ?_
 by_cases c1:c≤n/18446744073709551616
 ·have:¬ n/c≤18446744073709551615:=fun x=>by
   have h1:18446744073709551616≤n/c:=Int.le_ediv_of_mul_le (by omega) (by omega)
   omega
  rw [if_neg this] at hk
  refine xx ?_
  exact fin_tail (fin_here hk)
 ·have:n/c<18446744073709551616:=Int.ediv_lt_of_lt_mul (by omega) (by omega)
  rw [if_pos (by omega)] at hk
  refine xx ?_
  refine div64_any _ _ c ⟨by omega,by omega⟩ (by omega) hc.2 ?_
  rw [e0]
  refine xx ?_
  exact fin_tail (fin_here hk)
theorem fdown_any (a b c:Int) (ha:0≤a∧a≤18446744073709551615) (hb:0≤b∧b≤18446744073709551615) (hc:0≤c∧c≤18446744073709551615) (hk:K (.tuple #[.int .u64 (dwN a b c),.int .u64 (rsN a b c),.int .i64 (dwE a b c)]) L h) :
  Spec Tryz.prog 368 [.agg #[.int .u64 (a*b/18446744073709551616),.int .u64 (a*b%18446744073709551616),.int .u64 c]] L h K:=by
 have hi:=hi_bound a b ha.1 ha.2 hb.1 hb.2
 refine x_enter Tryz.func368 rfl (rs:=[_,_,_]) rfl rfl mixed (by kernel_rfl) rfl rfl ?_
 refine xx ?_
 refine xnew fun b1 n_b1 h_b1=>?_
 try simp only [Apart] at n_b1
 refine xx ?_
 by_cases c0:c=0
 ·have e:dwE a b c=20:=by rw [dwE,if_pos c0]
  rw [dwN,rsN,e] at hk
  refine xx ?_
  exact fin_tail (fin_here hk)
 ·refine xx ?_
  refine by_any (a*b) c ⟨Int.mul_nonneg ha.1 hb.1,by omega⟩ ⟨by omega,hc.2⟩ ?_
  by_cases c1:a*b/c≤18446744073709551615
  ·have e:dwE a b c=0:=by rw [dwE,if_neg c0,if_pos c1]
   rw [dwN,rsN,e,if_pos rfl,if_pos rfl] at hk
   rw [if_pos c1]
   refine xx ?_
   exact fin_tail (fin_here hk)
  ·have e:dwE a b c=10:=by rw [dwE,if_neg c0,if_neg c1]
   rw [dwN,rsN,e] at hk
   rw [if_neg c1]
   refine xx ?_
   exact fin_tail (fin_here hk)
theorem rover_any (a b c:Int) (ha:0≤a∧a≤18446744073709551615) (hb:0≤b∧b≤18446744073709551615) (hc:0≤c∧c≤18446744073709551615) (hk:K (.tuple #[.int .u64 (dwN a b c),.int .u64 (rsN a b c),.int .i64 (dwE a b c)]) L h) :
  Spec Tryz.prog 356 [.int .u64 a,.int .u64 b,.int .u64 c] L h K:=by
 refine x_enter Tryz.func356 rfl (rs:=[_,_,_]) rfl rfl mixed (by kernel_rfl) rfl rfl ?_
 refine xx ?_
 refine times_any a b ha.1 ha.2 hb.1 hb.2 ?_
 refine xx ?_
 refine fdown_any a b c ha hb hc ?_
 refine xx ?_
 exact fin_here hk
theorem down_any (a b c:Int) (ha:0≤a∧a≤18446744073709551615) (hb:0≤b∧b≤18446744073709551615) (hc:0≤c∧c≤18446744073709551615) (hk:K (.tuple #[.int .u64 (dwN a b c),.int .i64 (dwE a b c)]) L h) :
  Spec Tryz.prog 322 [.int .u64 a,.int .u64 b,.int .u64 c] L h K:=by
 refine x_enter Tryz.func322 rfl (rs:=[_,_]) rfl rfl mixed (by kernel_rfl) rfl rfl ?_
 refine xx ?_
 refine rover_any a b c ha hb hc ?_
 refine xx ?_
 exact fin_here hk
theorem up_any (a b c:Int) (ha:0≤a∧a≤18446744073709551615) (hb:0≤b∧b≤18446744073709551615) (hc:0≤c∧c≤18446744073709551615) (hk:K (.tuple #[.int .u64 (uqN a b c),.int .i64 (uqE a b c)]) L h) :
  Spec Tryz.prog 358 [.int .u64 a,.int .u64 b,.int .u64 c] L h K:=by
 refine x_enter Tryz.func358 rfl (rs:=[_,_]) rfl rfl mixed (by kernel_rfl) rfl rfl ?_
 refine xx ?_
 refine rover_any a b c ha hb hc ?_
 by_cases c0:c=0
 ·have e:dwE a b c=20:=by rw [dwE,if_pos c0]
  have e2:uqE a b c=20:=by rw [uqE,if_pos c0]
  rw [uqN,e2] at hk
  rw [dwN,rsN,e]
  refine xx ?_
  exact fin_here hk
 ·have hq:=Int.ediv_nonneg (Int.mul_nonneg ha.1 hb.1) hc.1
  by_cases c1:a*b/c≤18446744073709551615
  ·have e:dwE a b c=0:=by rw [dwE,if_neg c0,if_pos c1]
   rw [dwN,rsN,e,if_pos rfl,if_pos rfl]
   by_cases c2:a*b%c=0
   ·have q:uqQ a b c=a*b/c:=by rw [uqQ,if_pos c2]
    have e2:uqE a b c=0:=by rw [uqE,if_neg c0,q,if_pos c1]
    rw [uqN,e2,if_pos rfl,q] at hk
    refine xx ?_
    exact fin_here hk
   ·have q:uqQ a b c=a*b/c+1:=by rw [uqQ,if_neg c2]
    by_cases c3:a*b/c=18446744073709551615
    ·have e2:uqE a b c=10:=by rw [uqE,if_neg c0,q,if_neg (by omega)]
     rw [uqN,e2] at hk
     refine xx ?_
     exact fin_here hk
    ·have e2:uqE a b c=0:=by rw [uqE,if_neg c0,q,if_pos (by omega)]
     rw [uqN,e2,if_pos rfl,q] at hk
     refine xx ?_
     exact fin_here hk
  ·have e:dwE a b c=10:=by rw [dwE,if_neg c0,if_neg c1]
   have e2:uqE a b c=10:=by
    rw [uqE,if_neg c0,if_neg]
    unfold uqQ
    split<;>omega
   rw [uqN,e2] at hk
   rw [dwN,rsN,e]
   refine xx ?_
   exact fin_here hk
end Go.X
