/- Lemmas and contracts for a statement about the given program. Conditions: as each says. -/
import Derived.Test.YtmmfajokfdaokaaGreatQ03
import Derived.Test.YtmmfajokfdaokaaGreatQ04
import Derived.Test.YtmmfajokfdaokaaGreatQ07
import Derived.Test.YtmmfajokfdaokaaGreatQ09
import Derived.Test.YtmmfajokfdaokaaGreatQ12
set_option linter.unusedVariables false
set_option linter.unusedSimpArgs false
set_option maxHeartbeats 12800000
set_option maxRecDepth 20000
namespace Go.X
open Go.RowKit Go.Proofs Go.Bl
variable {L:Own} {h:PH} {K:PK}
theorem clone8_any {xs:List Int} (v:Value) (hx:Ints h .u8 v xs) (hl:xs.length≤1000) (hk:∀ h' r,PH.le h h'→Ints h' .u8 r xs→K r L h'):Spec Tryz.prog 69 [v] L h K:=by
 have ox:=hx.open
 obtain ⟨a,ca,rfl,hna,hca,h0,hcx⟩:=ox
 refine x_enter Tryz.func69 rfl (rs:=[_]) rfl rfl mixed (by kernel_rfl) rfl rfl ?_
 refine xx ?_
 cases ha:a.isNone with
 | true =>
  have ha':a=none:=by simpa using ha
  subst ha'
  have hl0:xs.length=0:=by have:=h0 rfl; omega
  have hx':xs=[]:=List.eq_nil_of_length_eq_zero hl0
  subst hx'
  refine xx ?_
  refine fin_here (hk h _ (PH.le_refl h) ?_)
  rw [h0 rfl] at hx
  exact hx
 | false =>
  refine xx ?_
  refine xnew fun b1 n_b1 h_b1=>?_
  try simp only [Apart] at n_b1
  refine xx ?_
  refine xappend (t:=36) (e:=5) (sz:=1) (bytes:=1) (z:=[.int .u8 0]) (by kernel_rfl) tI_5 rfl rfl rfl rfl (by decide) [] L (some (b1,0)) 0 [] ⟨Nat.le_refl _,Nat.zero_le _⟩ rfl (Src.known hx.1) (by simp) (ints_one _ _) (by simp [maxLen]; omega) (by omega) ?_
  intro o' j1 j2 j3
  simp only [Nat.zero_add,List.nil_append] at j1 j2 ⊢
  refine xx ?_
  exact fin_pub (n:=xs.length) j1 (by simp) (by omega) j2 fun h' le sl=>fin_here (hk h' _ le ⟨sl,hx.2⟩)
theorem clone64_any {xs:List Int} (v:Value) (hx:Ints h .u64 v xs) (hl:xs.length≤1000) (hk:∀ h' r,PH.le h h'→Ints h' .u64 r xs→K r L h'):Spec Tryz.prog 38 [v] L h K:=by
 have ox:=hx.open
 obtain ⟨a,ca,rfl,hna,hca,h0,hcx⟩:=ox
 refine x_enter Tryz.func38 rfl (rs:=[_]) rfl rfl mixed (by kernel_rfl) rfl rfl ?_
 refine xx ?_
 cases ha:a.isNone with
 | true =>
  have ha':a=none:=by simpa using ha
  subst ha'
  have hl0:xs.length=0:=by have:=h0 rfl; omega
  have hx':xs=[]:=List.eq_nil_of_length_eq_zero hl0
  subst hx'
  refine xx ?_
  refine fin_here (hk h _ (PH.le_refl h) ?_)
  rw [h0 rfl] at hx
  exact hx
 | false =>
  refine xx ?_
  refine xnew fun b1 n_b1 h_b1=>?_
  try simp only [Apart] at n_b1
  refine xx ?_
  refine xappend (t:=25) (e:=22) (sz:=1) (bytes:=8) (z:=[.int .u64 0]) (by kernel_rfl) tI_22 rfl rfl rfl rfl (by decide) [] L (some (b1,0)) 0 [] ⟨Nat.le_refl _,Nat.zero_le _⟩ rfl (Src.known hx.1) (by simp) (ints_one _ _) (by simp [maxLen]; omega) (by omega) ?_
  intro o' j1 j2 j3
  simp only [Nat.zero_add,List.nil_append] at j1 j2 ⊢
  refine xx ?_
  exact fin_pub (n:=xs.length) j1 (by simp) (by omega) j2 fun h' le sl=>fin_here (hk h' _ le ⟨sl,hx.2⟩)
def orB (x:Int) (j:Nat):Int:=bits .or .u8 x (2 ^ j%256)
def setB (xs:List Int) (i:Int):List Int:=xs.set (i/8).toNat (orB (at0 xs (i/8).toNat) (i%8).toNat)
def bol (bl:List Bool) (i:Nat):Bool:=bl.getD i false
def Bools (h:PH) (v:Value) (bl:List Bool):Prop:=Sl h v bl.length 1 (bl.map Value.bool)
theorem Bools.open {v:Value} {bl:List Bool} (hs:Bools h v bl):∃ a cap,v = .slice a bl.length cap∧bl.length≤cap∧(a=none→cap=0)∧∀ j,j<bl.length→elemCell h a j=some (.bool (bol bl j)):=by
 obtain ⟨_,a,cap,h2,h3,h4,h4',h5,h6⟩:=hs
 exact ⟨a,cap,h2,h3,h5,fun j hj=>h6 j _ (by simp [bol,hj])⟩
def PackB (bl:List Bool) (m:Nat) (x:Int) (j:Nat):Prop :=
 0≤x∧x<2 ^ (8*j+8-max (8*j) m)∧∀ k,k<8*j+8-max (8*j) m→(x/2 ^ k%2=1↔bol bl (max (8*j) m+k)=true)
theorem PackB.step {bl:List Bool} {m:Nat} {x:Int} {j:Nat} (hp:PackB bl (m+1) x j) (hj:m/8=j):2*x+(if bol bl m then 1 else 0)≤255∧PackB bl m (2*x+if bol bl m then 1 else 0) j:=by
 obtain ⟨h0,h1,h2⟩:=hp
 have e1:max (8*j) (m+1)=m+1:=by omega
 have e2:max (8*j) m=m:=by omega
 obtain ⟨w,hw⟩:∃ w,8*j+8-(m+1)=w:=⟨_,rfl⟩
 have hw2:8*j+8-m=w+1:=by omega
 have hw3:w≤7:=by omega
 rw [e1,hw] at h1 h2
 have hb:(0:Int)≤(if bol bl m then 1 else 0)∧(if bol bl m then (1:Int) else 0)≤1:=by split<;>omega
 have hp:(2:Int) ^ (w+1)=2*2 ^ w:=by rw [Int.pow_succ,Int.mul_comm]
 have hp7:(2:Int) ^ w≤128:=by
  have:∀ w,w≤7→(2:Int) ^ w≤128:=by decide
  exact this w hw3
 have hc:(if bol bl m then (1:Int) else 0)=1↔bol bl m=true:=by split<;>rename_i hc<;>simp [hc]
 generalize (if bol bl m then (1:Int) else 0)=c at hb hc ⊢
 refine ⟨by omega,by omega,?_,?_⟩
 ·rw [e2,hw2,hp]; omega
 ·intro k hk
  rw [e2,hw2] at hk
  rw [e2]
  cases k with
  | zero =>
   simp only [Int.pow_zero,Int.ediv_one,Nat.add_zero]
   rw [← hc]
   omega
  | succ k =>
   have e3:(2:Int) ^ (k+1)=2*2 ^ k:=by rw [Int.pow_succ,Int.mul_comm]
   have e:(2*x+c)/2 ^ (k+1)=x/2 ^ k:=by
    rw [e3,← Int.ediv_ediv_of_nonneg (show (0:Int)≤2 by decide),show (2*x+c)/2=x by omega]
   rw [e,h2 k (by omega),show m+1+k=m+(k+1) by omega]
theorem idxB {bl:List Bool} {a:Option Addr} (hc:∀ j,j<bl.length→elemCell h a j=some (.bool (bol bl j))):∀ j,j<bl.length→elemCell h a j=some ((fun j=>Value.bool (bol bl j)) j):=hc
theorem within64_any (n lo hi:Int) (hk:K (.bool (wi n lo hi)) L h):Spec Tryz.prog 228 [.int .u64 n,.int .u64 lo,.int .u64 hi] L h K:=by
 unfold wi at hk
 refine x_enter Tryz.func228 rfl (rs:=[_]) rfl rfl mixed (by kernel_rfl) rfl rfl ?_
 refine xx ?_
 by_cases c:lo≤n
 ·refine xx ?_
  exact fin_here (by simpa [c] using hk)
 ·refine xx ?_
  exact fin_here (by simpa [c] using hk)
theorem withini_any (n lo hi:Int) (hk:K (.bool (wi n lo hi)) L h):Spec Tryz.prog 229 [.int .i64 n,.int .i64 lo,.int .i64 hi] L h K:=by
 unfold wi at hk
 refine x_enter Tryz.func229 rfl (rs:=[_]) rfl rfl mixed (by kernel_rfl) rfl rfl ?_
 refine xx ?_
 by_cases c:lo≤n
 ·refine xx ?_
  exact fin_here (by simpa [c] using hk)
 ·refine xx ?_
  exact fin_here (by simpa [c] using hk)
theorem all_any' {bl:List Bool} (v:Value) (hb:Bools h v bl) (hl:bl.length≤100) (hk:K (.bool (bl.all id)) L h):Spec Tryz.prog 227 [v] L h K:=by
 have ob:=hb.open
 obtain ⟨a,c,rfl,_,_,hcs⟩:=ob
 refine x_enter Tryz.func227 rfl (rs:=[_]) rfl rfl mixed (by kernel_rfl) rfl rfl ?_
 refine xx ?_
 refine xloop' (0:Nat) (fun k=>k≤bl.length∧∀ j,j<k→bol bl j=true) (fun k=>[(7,.int .i64 k),(5,.slice a bl.length c),(6,.int .i64 bl.length)]) (fun k=>bl.length-k) ?_ ?_ ?_
 ·exact ⟨Nat.zero_le _,fun j hj=>by omega⟩
 ·simp [Ent,List.lookup]
 intro k ⟨k1,k2⟩
 by_cases d:k<bl.length
 ·simp -dsimp -implicitDefEqProofs (disch:=first|with_reducible assumption|omega) [go_sem,idx (idxB hcs)]
  cases hg:bol bl k with
  | true =>
   refine xx ?_
   refine ⟨k+1,⟨by omega,fun j hj=>?_⟩,by omega,by simp [Ent,List.lookup],Drop.refl _ _⟩
   by_cases e:j=k
   ·subst e; exact hg
   ·exact k2 j (by omega)
  | false =>
   have:bl.all id=false:=by
    rw [List.all_eq_false]
    refine ⟨bl[k],List.getElem_mem d,?_⟩
    simp [bol,d] at hg
    simp [hg]
   rw [this] at hk
   refine xx ?_
   exact fin_here hk
 ·have:bl.all id=true:=by
   rw [List.all_eq_true]
   intro x hx
   obtain ⟨j,hj,rfl⟩:=List.mem_iff_getElem.1 hx
   have:=k2 j (by omega)
   simp [bol,hj] at this
   simpa using this
  rw [this] at hk
  refine xx ?_
  exact fin_here hk
theorem stakes_any (p:ParD) (ok:ParOk p) (hk:∀ h',PH.le h h'→K (.bool (stakesB p)) L h'):Spec Tryz.prog 114 [parV p] L h K:=by
 refine x_enter Tryz.func114 rfl (rs:=[_]) rfl rfl mixed (by kernel_rfl) rfl rfl ?_
 refine xx ?_
 refine xnew fun b1 n_b1 h_b1=>?_
 try simp only [Apart] at n_b1
 refine xx ?_
 refine xanyl (.tk 0 (.tk 3 (.tk 5 (.tk 8 (.tk 10 (.tk 13 (.tk 15 (.tk 18 (.tk 20 (.tk 23 (.tk 25 (.tk 28 (.tkl 1 (.tkl 4 (.tkl 6 (.tkl 9 (.tkl 11 (.tk 12 (.tkl 14 (.tkl 16 (.tk 17 (.tkl 19 (.tkl 21 (.tkl 24 (.tkl 26 (.tkl 29 (.tk 30 (.or true 2 (.or true 7 (.or true 22 (.or true 27 (.or true 31 (.or true 32 (.tk 33 (.tk 34 (.tk 36 (.tkl 35 (.tkl 37 (.tk 38 (.tk 39 (.tk 40 (.tk 41 (.fin)))))))))) (.nil)) (.nil)) (.nil)) (.nil)) (.nil)) (.nil))))))))))))))))))))))))))))) (by kernel_rfl) (by kernel_rfl) _ (Drop.refl _ _) ?_
 refine xx ?_
 refine within64_any _ _ _ ?_
 refine xx ?_
 refine within64_any _ _ _ ?_
 refine xx ?_
 refine within64_any _ _ _ ?_
 refine xx ?_
 refine within64_any _ _ _ ?_
 refine xx ?_
 refine xnew fun b2 n_b2 h_b2=>?_
 try simp only [Apart] at n_b2
 refine xkp (Drop.tail _ _ _) ?_
 refine xx ?_
 refine call_pub_at (sz:=1) (n:=7) (cap:=7) [] ⟨Nat.le_refl _,by decide⟩ rfl (by decide) h_b2 fun h2 le2 s2 f2=>?_
 refine all_any' (bl:=[wi p.inc 1 2147483648,wi p.maxEff p.inc 1099511627776,decide (p.inc≤p.floor),decide (p.floor<p.cap),wi p.cap p.maxEff 1099511627776,wi p.up p.inc 1099511627776,decide (p.down≤1099511627776)]) _ s2 (by simp) ?_
 have hs:stakesB p=([wi p.inc 1 2147483648,wi p.maxEff p.inc 1099511627776,decide (p.inc≤p.floor),decide (p.floor<p.cap),wi p.cap p.maxEff 1099511627776,wi p.up p.inc 1099511627776,decide (p.down≤1099511627776)].all id&&decide (p.maxEff%p.inc=0)):=rfl
 rw [hs] at hk
 cases hB:[wi p.inc 1 2147483648,wi p.maxEff p.inc 1099511627776,decide (p.inc≤p.floor),decide (p.floor<p.cap),wi p.cap p.maxEff 1099511627776,wi p.up p.inc 1099511627776,decide (p.down≤1099511627776)].all id with
 | false =>
  rw [hB] at hk
  refine xkp (Drop.forget le2) ?_
  simp only [List.nil_append]
  refine xx ?_
  exact fin_tail (fin_here (hk h2 le2))
 | true =>
  rw [hB] at hk
  have h1:1≤p.inc:=by
   simp only [List.all_cons,List.all_nil,id,Bool.and_eq_true,wi_iff,decide_eq_true_eq,and_true] at hB
   omega
  have h3:=ok.w p.maxEff (by simp [wides])
  refine xkp (Drop.forget le2) ?_
  simp only [List.nil_append]
  refine xx ?_
  exact fin_tail (fin_here (by simpa using hk h2 le2))
theorem scores_any (p:ParD) (hk:∀ h',PH.le h h'→K (.bool (scoresB p)) L h'):Spec Tryz.prog 115 [parV p] L h K:=by
 refine x_enter Tryz.func115 rfl (rs:=[_]) rfl rfl mixed (by kernel_rfl) rfl rfl ?_
 refine xx ?_
 refine xnew fun b1 n_b1 h_b1=>?_
 try simp only [Apart] at n_b1
 refine xx ?_
 refine xanyl (.tk 0 (.tk 3 (.tk 5 (.tk 8 (.tk 11 (.tk 13 (.tk 16 (.tk 19 (.tkl 1 (.tkl 4 (.tkl 6 (.tkl 9 (.tkl 12 (.tkl 14 (.tkl 17 (.tk 18 (.tkl 20 (.or true 2 (.or true 7 (.or true 10 (.or true 15 (.or true 21 (.or true 22 (.or true 23 (.tk 24 (.fin)) (.nil)) (.nil)) (.nil)) (.nil)) (.nil)) (.nil)) (.nil))))))))))))))))))) (by kernel_rfl) (by kernel_rfl) _ (Drop.refl _ _) ?_
 refine xx ?_
 refine within64_any _ _ _ ?_
 refine xx ?_
 refine within64_any _ _ _ ?_
 refine xx ?_
 refine within64_any _ _ _ ?_
 refine xx ?_
 refine within64_any _ _ _ ?_
 refine xx ?_
 refine within64_any _ _ _ ?_
 refine xx ?_
 refine xnew fun b2 n_b2 h_b2=>?_
 try simp only [Apart] at n_b2
 refine xkp (Drop.tail _ _ _) ?_
 refine xx ?_
 refine call_pub_at (sz:=1) (n:=6) (cap:=6) [] ⟨Nat.le_refl _,by decide⟩ rfl (by decide) h_b2 fun h2 le2 s2 f2=>?_
 refine all_any' (bl:=[wi p.bias 1 4294967296,wi p.biasEm p.bias 4294967296,wi p.quot 1 1099511627776,wi p.quotEm 1 p.quot,decide (p.recover≤4294967296),wi p.scoreCap 1 72057594037927936]) _ s2 (by simp) ?_
 have hs:scoresB p=[wi p.bias 1 4294967296,wi p.biasEm p.bias 4294967296,wi p.quot 1 1099511627776,wi p.quotEm 1 p.quot,decide (p.recover≤4294967296),wi p.scoreCap 1 72057594037927936].all id:=rfl
 rw [← hs]
 refine xkp (Drop.forget le2) ?_
 simp only [List.nil_append]
 refine xx ?_
 exact fin_tail (fin_here (hk h2 le2))
theorem others_any (p:ParD) (hk:∀ h',PH.le h h'→K (.bool (othersB p)) L h'):Spec Tryz.prog 116 [parV p] L h K:=by
 refine x_enter Tryz.func116 rfl (rs:=[_]) rfl rfl mixed (by kernel_rfl) rfl rfl ?_
 refine xx ?_
 refine xnew fun b1 n_b1 h_b1=>?_
 try simp only [Apart] at n_b1
 refine xx ?_
 refine xanyl (.tk 0 (.tk 3 (.tk 6 (.tk 9 (.tk 12 (.tk 15 (.tk 18 (.tk 21 (.tk 24 (.tk 27 (.tk 30 (.tk 33 (.tkl 1 (.tk 2 (.tkl 4 (.tk 5 (.tkl 7 (.tkl 10 (.tkl 13 (.tkl 16 (.tkl 19 (.tkl 22 (.tkl 25 (.tkl 28 (.tkl 31 (.tkl 34 (.or true 8 (.or true 11 (.or true 14 (.or true 17 (.or true 20 (.or true 23 (.or true 26 (.or true 29 (.or true 32 (.or true 35 (.or true 36 (.or true 37 (.tk 38 (.fin)) (.nil)) (.nil)) (.nil)) (.nil)) (.nil)) (.nil)) (.nil)) (.nil)) (.nil)) (.nil)) (.nil)) (.nil)))))))))))))))))))))))))))) (by kernel_rfl) (by kernel_rfl) _ (Drop.refl _ _) ?_
 refine xx ?_
 iterate 10
  refine withini_any _ _ _ ?_
  simp -dsimp -implicitDefEqProofs (disch:=first|with_reducible assumption|omega) [go_sem]
 refine xnew fun b2 n_b2 h_b2=>?_
 try simp only [Apart] at n_b2
 refine xkp (Drop.tail _ _ _) ?_
 refine xx ?_
 refine call_pub_at (sz:=1) (n:=12) (cap:=12) [] ⟨Nat.le_refl _,by decide⟩ rfl (by decide) h_b2 fun h2 le2 s2 f2=>?_
 refine all_any' (bl:=[decide (p.rate≤4294967296),decide (p.bond≤1099511627776),wi p.delay 0 1000,wi p.wait 0 50,wi p.enact 0 1000,wi p.poll 1 1000,wi p.streak 0 64,wi p.boost 0 1000,wi p.absent 0 10000,wi p.burn 0 10000,wi p.quorum 0 10000,wi p.churn 1 64]) _ s2 (by simp) ?_
 have hs:othersB p=[decide (p.rate≤4294967296),decide (p.bond≤1099511627776),wi p.delay 0 1000,wi p.wait 0 50,wi p.enact 0 1000,wi p.poll 1 1000,wi p.streak 0 64,wi p.boost 0 1000,wi p.absent 0 10000,wi p.burn 0 10000,wi p.quorum 0 10000,wi p.churn 1 64].all id:=rfl
 rw [← hs]
 refine xkp (Drop.forget le2) ?_
 simp only [List.nil_append]
 refine xx ?_
 exact fin_tail (fin_here (hk h2 le2))
theorem search_any (n:Nat) (q:Nat→Bool) (fv:Value) (hn:n≤4611686018427387904) (hq:∀ i j,i≤j→q i=true→q j=true)
  (hf:∀ i:Nat,i<n→∀ K:PK,K (.bool (q i)) L h→xCallV Tryz.prog fv [.int .i64 i] L h K)
  (hk:K (.int .i64 (firstN q n 0)) L h):Spec Tryz.prog 232 [.int .i64 n,fv] L h K:=by
 refine x_enter Tryz.func232 rfl (rs:=[_]) rfl rfl mixed (by kernel_rfl) rfl rfl ?_
 refine xx ?_
 refine xloop' (γ:=Nat×Nat) (0,n) (fun g=>g.1≤g.2∧g.2≤n∧(∀ k,k<g.1→q k=false)∧(g.2<n→q g.2=true)) (fun g=>[(5,.int .i64 g.1),(6,.int .i64 g.2),(1,fv)]) (fun g=>g.2-g.1) ?_ ?_ ?_
 ·exact ⟨Nat.zero_le _,Nat.le_refl _,fun k hk=>by simp only at hk; omega,fun h=>by simp only at h; omega⟩
 ·simp [Ent,List.lookup,xEnv]
 rintro ⟨i,j⟩ ⟨i1,i2,i3,i4⟩
 simp only at i1 i2 i3 i4 ⊢
 by_cases d:i<j
 ·obtain ⟨m,hm⟩:∃ m,m=(i+j)/2:=⟨_,rfl⟩
  have e:((i:Int)+(j:Int))/2=(m:Int):=by omega
  simp -dsimp -implicitDefEqProofs (disch:=first|with_reducible assumption|omega) [go_sem,e]
  refine Or.inl (hf m (by omega) _ ?_)
  cases hg:q m with
  | true =>
   refine xx ?_
   exact ⟨i,m,⟨by omega,by omega,i3,fun _=>hg⟩,by omega,by simp [Ent,List.lookup],Drop.refl _ _⟩
  | false =>
   refine xx ?_
   refine ⟨m+1,j,⟨by omega,i2,fun k hk=>?_,i4⟩,by omega,by simp [Ent,List.lookup],Drop.refl _ _⟩
   cases hqk:q k with
   | false=>rfl
   | true=>rw [hq k m (by omega) hqk] at hg; cases hg
 ·have:i=j:=by omega
  subst this
  have e:firstN q n 0=i:=firstN_unique (Nat.zero_le _) (by omega) (fun k _ hk=>i3 k hk) (fun h=>i4 (by omega))
  rw [e] at hk
  refine xx ?_
  exact fin_here hk
theorem firstN_shift (q:Nat→Bool):∀ (m k:Nat),firstN (fun i=>q (i+1)) m k+1=firstN q m (k+1)
 | 0,k=>rfl
 | m+1,k=>by
  simp only [firstN]
  split
  ·rfl
  ·exact firstN_shift q m (k+1)
theorem leak_any (p:ParD) (ok:ParOk p) (h1:stakesB p=true) (h2:scoresB p=true) (hk:K (.int .i64 (leakT p)) L h):Spec Tryz.prog 117 [parV p] L h K:=by
 have f1:=stakesB_facts h1
 have f2:=scoresB_facts h2
 refine x_enter Tryz.func117 rfl (rs:=[_]) rfl rfl mixed (by kernel_rfl) rfl rfl ?_
 refine xx ?_
 refine xnew fun b1 n_b1 h_b1=>?_
 try simp only [Apart] at n_b1
 refine xx ?_
 refine search_any 1048576 (fun i=>enough p (i+1)) _ (by omega) (fun i j hij he=>enough_mono (by omega) (by omega) (by omega) he) (fun i hi K' hk'=>?_) ?_
 ·have hA:0≤p.inc*p.bias∧p.inc*p.bias≤9223372036854775808 :=
   ⟨Int.mul_nonneg (by omega) (by omega),Int.le_trans (Int.mul_le_mul f1.2.1 f2.2.1 (by omega) (by omega)) (by decide)⟩
  have hB:0≤((i:Int)+1)*((i:Int)+1+1)∧((i:Int)+1)*((i:Int)+1+1)≤1099513724929 :=
   ⟨Int.mul_nonneg (by omega) (by omega),Int.le_trans (Int.mul_le_mul (show (i:Int)+1≤1048576 by omega) (show (i:Int)+1+1≤1048577 by omega) (by omega) (by omega)) (by decide)⟩
  refine xx ?_
  refine x_enter Tryz.func230 rfl (rs:=[_]) rfl rfl mixed (by kernel_rfl) rfl rfl ?_
  refine xx ?_
  refine rless_any _ _ _ _ (by omega) (by omega) (by omega) (by omega) ?_
  refine xx ?_
  refine fin_here ?_
  have e:enough p (i+1) = !decide (p.inc*p.bias*(((i:Int)+1)*((i:Int)+1+1))<2*p.quot*(p.cap-p.floor)):=by
   unfold enough
   push_cast
   rw [← decide_not,decide_eq_decide]
   omega
  rw [e] at hk'
  simpa using hk'
 ·have e:=firstN_shift (enough p) 1048576 0
  have hl:=(firstN_spec (fun i=>enough p (i+1)) 1048576 0).2.1
  have e2:leakT p=firstN (fun i=>enough p (i+1)) 1048576 0+1:=by rw [e]; rfl
  rw [e2] at hk
  refine xx ?_
  exact fin_tail (fin_here (by simpa using hk))
theorem pcheck_any (p:ParD) (ok:ParOk p) (hk:∀ h',PH.le h h'→K (.int .i64 (if parR p then 0 else 70)) L h'):Spec Tryz.prog 36 [parV p] L h K:=by
 refine x_enter Tryz.func36 rfl (rs:=[_]) rfl rfl mixed (by kernel_rfl) rfl rfl ?_
 refine xx ?_
 refine xnew fun b1 n_b1 h_b1=>?_
 try simp only [Apart] at n_b1
 refine xx ?_
 refine Spec.ap (stakes_any p ok fun h2 le2 ap=>?_)
 obtain ⟨q2,_⟩:=ap
 cases h1:stakesB p with
 | false =>
  rw [show parR p=false by simp [parR,h1]] at hk
  refine xx ?_
  exact fin_tail (fin_here (hk h2 le2))
 | true =>
  refine xx ?_
  refine Spec.ap (scores_any p fun h3 le3 ap=>?_)
  obtain ⟨q3,_⟩:=ap
  cases h2':scoresB p with
  | false =>
   rw [show parR p=false by simp [parR,h2']] at hk
   refine xx ?_
   exact fin_tail (fin_here (hk h3 (le2.trans le3)))
  | true =>
   refine xx ?_
   refine Spec.ap (others_any p fun h4 le4 ap=>?_)
   obtain ⟨q4,_⟩:=ap
   cases h3':othersB p with
   | false =>
    rw [show parR p=false by simp [parR,h3']] at hk
    refine xx ?_
    exact fin_tail (fin_here (hk h4 (le2.trans (le3.trans le4))))
   | true =>
    have f1:=stakesB_facts h1
    have f2:=scoresB_facts h2'
    have hl:=(firstN_spec (enough p) 1048576 1).2.1
    have hl1:leakT p≤1048577:=by unfold leakT; omega
    have e:parR p=(decide (leakT p≤1048576)&&decide (p.bias*(leakT p:Int)≤p.scoreCap)):=by simp [parR,h1,h2',h3']
    have hA:0≤p.bias*(leakT p:Int)∧p.bias*(leakT p:Int)≤4503603922337792 :=
     ⟨Int.mul_nonneg (by omega) (by omega),Int.le_trans (Int.mul_le_mul f2.2.1 (show (leakT p:Int)≤1048577 by omega) (by omega) (by omega)) (by decide)⟩
    rw [e] at hk
    refine xx ?_
    refine leak_any p ok h1 h2' ?_
    by_cases d1:leakT p≤1048576
    ·by_cases d2:p.bias*(leakT p:Int)≤p.scoreCap
     ·refine xx ?_
      exact fin_tail (fin_here (by simpa [d1,d2] using hk h4 (le2.trans (le3.trans le4))))
     ·refine xx ?_
      exact fin_tail (fin_here (by simpa [d1,d2] using hk h4 (le2.trans (le3.trans le4))))
    ·refine xx ?_
     exact fin_tail (fin_here (by simpa [d1] using hk h4 (le2.trans (le3.trans le4))))
end Go.X
