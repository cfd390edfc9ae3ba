/- Lemmas and contracts for a statement about the given program. Conditions: as each says. -/
import Derived.Test.YtmmfajokfdaokaaGreatQ17
import Derived.Test.YtmmfajokfdaokaaGreatQ18
set_option linter.unusedVariables false
set_option linter.unusedSimpArgs false
set_option maxHeartbeats 12800000
set_option maxRecDepth 20000
namespace Go.X
open Go.RowKit Go.Proofs Go.Bl
variable {L:Own} {h:PH} {K:PK}
def whoE (ws:List Int):Int:=if ws.length≤256 then (if tot ws≤18446744073709551615 then 0 else 40) else 40
def whoN (ws:List Int):Int:=if whoE ws=0 then tot ws else 0
theorem shWhole_any {ws:List Int} (v:Value) (hw:Ints h .u64 v ws) (hk:K (.tuple #[.int .u64 (whoN ws),.int .i64 (whoE ws)]) L h):Spec Tryz.prog 324 [v] L h K:=by
 have hw0:=hw
 obtain ⟨a,c,rfl,_⟩:=hw.open
 refine x_enter Tryz.func324 rfl (rs:=[_,_]) rfl rfl mixed (by kernel_rfl) rfl rfl ?_
 refine xx ?_
 by_cases c1:256<ws.length
 ·have e:whoE ws=40:=by rw [whoE,if_neg (by omega)]
  rw [whoN,e] at hk
  refine xx ?_
  exact fin_here hk
 ·refine xx ?_
  refine msum_any _ hw0 ?_
  by_cases c2:tot ws≤18446744073709551615
  ·have e:whoE ws=0:=by rw [whoE,if_pos (by omega),if_pos c2]
   rw [whoN,e,if_pos rfl] at hk
   rw [sumV_ok c2]
   refine xx ?_
   exact fin_here hk
  ·have e:whoE ws=40:=by rw [whoE,if_pos (by omega),if_neg c2]
   rw [whoN,e] at hk
   rw [sumV_no c2]
   refine xx ?_
   exact fin_here hk
theorem sumK_at {xs:List Int} (h0:∀ i,0≤at0 xs i) (i:Nat):∀ k,i<k→at0 xs i≤sumK xs k
 | k+1,hk=>by
  rw [sumK]
  have:=h0 k
  by_cases c:k=i
  ·subst c; have:=sumK_nonneg h0 k; omega
  ·have:=sumK_at h0 i k (by omega); omega
theorem at0_le_tot {xs:List Int} (h0:∀ i,0≤at0 xs i) (i:Nat):at0 xs i≤tot xs:=by
 by_cases c:i<xs.length
 ·exact sumK_at h0 i _ c
 ·rw [at0_ge (by omega)]; exact sumK_nonneg h0 _
theorem tot_mem {xs:List Int} (h0:∀ i,0≤at0 xs i) {x:Int} (hx:x∈xs):x≤tot xs:=by
 obtain ⟨i,hi,rfl⟩:=List.mem_iff_getElem.1 hx
 rw [at0_lt hi]
 exact at0_le_tot h0 i
def part4 (t w:Int) (x:Int):Int:=if 0<w then t*x/w else 0
theorem parts1_any {ws:List Int} (t w:Int) (ht:0≤t∧t≤18446744073709551615) (hw:0≤w∧w≤18446744073709551615) (hsm:∀ x∈ws,x≤w) (wv:Value) (b5 b4 b3 l:Nat) (n54:b5≠b4) (n53:b5≠b3) (n43:b4≠b3)
  (Inv:Nat→Own→PH→Prop) (hws:Ints h .u64 wv ws)
  (hY:∀ j LL h1,j<ws.length→Inv j LL h1→PH.le h h1→YSpec Tryz.prog l [.int .i64 j,.int .u64 (part4 t w (at0 ws j))] (LL++[⟨b5,25,[wv],1⟩,⟨b4,22,[.int .u64 w],1⟩,⟨b3,22,[.int .u64 t],1⟩]) h1 fun v L' h'=>v = .bool true∧PH.le h1 h'∧∃ L2,L'=L2++[⟨b5,25,[wv],1⟩,⟨b4,22,[.int .u64 w],1⟩,⟨b3,22,[.int .u64 t],1⟩]∧Inv (j+1) L2 h')
  {LL:Own} (h0:Inv 0 LL h) (hk:∀ L2 h',PH.le h h'→Inv ws.length L2 h'→K (.tuple #[]) L2 h') :
  Spec Tryz.prog 357 [.func (.yield l) #[] #[],.pointer (some ⟨b5,0,none⟩),.pointer (some ⟨b4,0,none⟩),.pointer (some ⟨b3,0,none⟩)] (⟨b5,25,[wv],1⟩::⟨b4,22,[.int .u64 w],1⟩::⟨b3,22,[.int .u64 t],1⟩::LL) h K:=by
 have hwd:=hws.word
 have hws0:=hws
 obtain ⟨wa,wc,rfl,_,hwl,_,hcs0⟩:=hws.open
 refine x_enterA Tryz.func357 rfl (rs:=[]) rfl rfl mixed (by kernel_rfl) rfl rfl fun ap nd=>?_
 simp only [Ap] at ap
 obtain ⟨a5,a4,a3,_⟩:=ap
 refine xx ?_
 refine xloop (γ:=Nat×Own×PH) (0,LL,h) (fun q=>q.1≤ws.length∧Inv q.1 q.2.1 q.2.2∧PH.le h q.2.2∧q.2.2 b5=noC∧q.2.2 b4=noC∧q.2.2 b3=noC)
  (fun q=>[(10,.int .i64 q.1),(9,.int .i64 ws.length),(8,.slice wa ws.length wc),(0,.func (.yield l) #[] #[]),(2,.pointer (some ⟨b4,0,none⟩)),(3,.pointer (some ⟨b3,0,none⟩))])
  (fun q=>⟨b5,25,[.slice wa ws.length wc],1⟩::⟨b4,22,[.int .u64 w],1⟩::⟨b3,22,[.int .u64 t],1⟩::q.2.1) (fun q=>q.2.2) (fun q=>ws.length-q.1) ?_ ?_ ?_ ?_
 ·exact ⟨Nat.zero_le _,h0,PH.le_refl h,a5,a4,a3⟩
 ·simp [Ent,List.lookup,xEnv]
 ·exact Drop.refl _ _
 rintro ⟨k,LL,h1⟩ ⟨i1,i2,i3,i4,i5,i6⟩
 simp only at i1 i2 i3 i4 i5 i6 ⊢
 by_cases c1:k<ws.length
 ·have hcs:∀ j,j<ws.length→elemCell h1 wa j=some (Value.int IntKind.u64 (at0 ws j)):=fun j hj=>elemCell_up i3 (hcs0 j hj)
  have hxw:=hwd k
  have hmem:at0 ws k∈ws:=by rw [← at0_lt c1]; exact List.getElem_mem c1
  have go:∀ (Q:PK),(∀ L2 h2,PH.le h1 h2→Inv (k+1) L2 h2→(h2 b5=noC∧h2 b4=noC∧h2 b3=noC)→Q (.bool true) (L2++[⟨b5,25,[.slice wa ws.length wc],1⟩,⟨b4,22,[.int .u64 w],1⟩,⟨b3,22,[.int .u64 t],1⟩]) h2) →
    YSpec Tryz.prog l [.int .i64 k,.int .u64 (part4 t w (at0 ws k))] (⟨b5,25,[.slice wa ws.length wc],1⟩::⟨b4,22,[.int .u64 w],1⟩::⟨b3,22,[.int .u64 t],1⟩::LL) h1 Q:=fun Q hQ=>by
   refine YSpec.weaken (Drop.perm _ (List.perm_append_comm (l₁:=[_,_,_]) (l₂:=LL))) (YSpec.apn (YSpec.mono (hY k LL h1 c1 i2 i3) ?_))
   rintro v L' h2 ⟨rfl,le2,L2,rfl,i7⟩ ap nd
   have ap2:=(Ap.app ap).2
   simp only [Ap] at ap2
   exact hQ L2 h2 le2 i7 ⟨ap2.1,ap2.2.1,ap2.2.2.1⟩
  by_cases c2:0<w
  ·have ep:part4 t w (at0 ws k)=t*at0 ws k/w:=by rw [part4,if_pos c2]
   rw [ep] at go
   simp -dsimp -implicitDefEqProofs (disch:=first|with_reducible assumption|omega) [go_sem,idx hcs]
   refine down_any t (at0 ws k) w ht hxw ⟨by omega,hw.2⟩ ?_
   obtain ⟨z1,z2⟩:=dw_part ht.1 hxw.1 (hsm _ hmem) ht.2 c2
   rw [z1,z2]
   refine xx ?_
   refine go _ fun L2 h2 le2 i7 ⟨u5,u4,u3⟩=>?_
   refine xx ?_
   exact ⟨k+1,L2,h2,⟨by omega,i7,i3.trans le2,u5,u4,u3⟩,by omega,by simp [Ent,List.lookup],Drop.perm _ perm_back⟩
  ·have ep:part4 t w (at0 ws k)=0:=by rw [part4,if_neg c2]
   rw [ep] at go
   simp -dsimp -implicitDefEqProofs (disch:=first|with_reducible assumption|omega) [go_sem,idx hcs]
   refine go _ fun L2 h2 le2 i7 ⟨u5,u4,u3⟩=>?_
   refine xx ?_
   exact ⟨k+1,L2,h2,⟨by omega,i7,i3.trans le2,u5,u4,u3⟩,by omega,by simp [Ent,List.lookup],Drop.perm _ perm_back⟩
 ·have hkl:k=ws.length:=by omega
  subst hkl
  refine xx ?_
  exact fin_tail (fin_tail (fin_tail (fin_here (hk LL h1 i3 i2))))
theorem shparts_any (t w : Int) (wa : Option Addr) (wn wc : Nat) (hk : ∀ b3 b4 b5,Apart b3 L → h b3 = noC → b3 ≠ b4 → Apart b4 L → h b4 = noC → b4 ≠ b5 → b3 ≠ b5 → Apart b5 L → h b5 = noC →
      K (.func (.func 357) #[] #[.pointer (some ⟨b5,0,none⟩),.pointer (some ⟨b4,0,none⟩),.pointer (some ⟨b3,0,none⟩)]) (⟨b5,25,[.slice wa wn wc],1⟩::⟨b4,22,[.int .u64 w],1⟩::⟨b3,22,[.int .u64 t],1⟩::L) h) :
    Spec Tryz.prog 325 [.int .u64 t,.int .u64 w,.slice wa wn wc] L h K:=by
  refine x_enter Tryz.func325 rfl (rs:=[_]) rfl rfl mixed (by kernel_rfl) rfl rfl ?_
  refine xx ?_
  refine xnew fun b3 n_b3 h_b3=>?_
  try simp only [Apart] at n_b3
  refine xx ?_
  refine xnew fun b4 n_b4 h_b4=>?_
  try simp only [Apart] at n_b4
  refine xx ?_
  refine xnew fun b5 n_b5 h_b5=>?_
  try simp only [Apart] at n_b5
  refine xx ?_
  exact fin_here (hk b3 b4 b5 n_b3 h_b3 n_b4.1 n_b4.2 h_b4 n_b5.1 n_b5.2.1 n_b5.2.2 h_b5)
def splitL (t w:Int) (ws:List Int):List Int:=ws.map (part4 t w)
theorem part4_ok {t w x:Int} (ht:0≤t) (hx:0≤x):0≤part4 t w x∧part4 t w x*w≤t*x∨¬ 0≤w:=by
 by_cases c:0≤w
 ·left
  unfold part4
  split
  ·have h1:=Int.mul_nonneg ht hx
   refine ⟨Int.ediv_nonneg h1 c,?_⟩
   rw [Int.mul_comm]
   exact Int.mul_ediv_self_le (by omega)
  ·have h1:=Int.mul_nonneg ht hx
   exact ⟨Int.le_refl _,by simpa using h1⟩
 ·exact .inr c
theorem at0_mapI (f:Int→Int) (ws:List Int) {i:Nat} (hi:i<ws.length):at0 (ws.map f) i=f (at0 ws i):=by
 rw [← at0_lt (by simpa using hi),← at0_lt hi]; simp
theorem split_sum {t w:Int} {ws:List Int} (ht:0≤t) (hw:0≤w) (h0:∀ i,0≤at0 ws i):∀ k,k≤ws.length→0≤sumK (splitL t w ws) k∧sumK (splitL t w ws) k*w≤t*sumK ws k
 | 0,_=>⟨by simp [sumK],by simp [sumK]⟩
 | k+1,hk=>by
  obtain ⟨h1,h2⟩:=split_sum ht hw h0 k (by omega)
  rcases part4_ok (w:=w) ht (h0 k) with ⟨h3,h4⟩ | h3
  ·simp only [sumK,splitL,at0_mapI _ ws (show k<ws.length by omega)] at h1 h2 ⊢
   rw [Int.add_mul,Int.mul_add]
   exact ⟨by omega,by omega⟩
  ·exact absurd hw h3
theorem split_le {t:Int} {ws:List Int} (ht:0≤t) (h0:∀ i,0≤at0 ws i) {k:Nat} (hk:k≤ws.length):0≤sumK (splitL t (tot ws) ws) k∧sumK (splitL t (tot ws) ws) k≤t:=by
 have hw:=tot_nonneg h0
 obtain ⟨h1,h2⟩:=split_sum ht hw h0 k hk
 refine ⟨h1,?_⟩
 by_cases c:0<tot ws
 ·have h3:=sumK_mono h0 hk
  have h4:t*sumK ws k≤t*tot ws:=Int.mul_le_mul_of_nonneg_left h3 ht
  have h5:sumK (splitL t (tot ws) ws) k*tot ws≤t*tot ws:=Int.le_trans h2 h4
  exact Int.le_of_mul_le_mul_right h5 c
 ·have hz:∀ k,k≤ws.length→sumK (splitL t (tot ws) ws) k=0:=by
   intro k
   induction k with
   | zero=>intro _; simp [sumK]
   | succ k ih =>
    intro hk
    have:=ih (by omega)
    simp only [sumK,splitL,at0_mapI _ ws (show k<ws.length by omega)] at this ⊢
    rw [this,part4,if_neg c]; rfl
  rw [hz k hk]; exact ht
def spC (t:Int) (ws:List Int) (k:Nat):List Value:=((splitL t (tot ws) ws).take k).map (.int .u64)
theorem spC_len {t:Int} {ws:List Int} {k:Nat} (hk:k≤ws.length):(spC t ws k).length=k*1:=by simp [spC,splitL,hk]
theorem spC_succ {t:Int} {ws:List Int} {k:Nat} (hk:k<ws.length):spC t ws (k+1)=spC t ws k++[.int .u64 (part4 t (tot ws) (at0 ws k))]:=by
 have hk':k<(splitL t (tot ws) ws).length:=by simpa [splitL] using hk
 rw [spC,List.take_succ_eq_append_getElem hk',spC,List.map_append]
 have:(splitL t (tot ws) ws)[k]=part4 t (tot ws) (at0 ws k):=by simp [splitL,at0_lt hk]
 rw [this]; rfl
theorem split_any {ws:List Int} (t:Int) (ht:0≤t∧t≤18446744073709551615) (wv:Value) (hws:Ints h .u64 wv ws)
  (hk1:whoE ws≠0→K (.tuple #[.slice none 0 0,.int .u64 0,.int .i64 (whoE ws)]) L h)
  (hk2:whoE ws=0→∀ o,okO o ws.length→apO o L h→K (.tuple #[ovs o ws.length,.int .u64 (t-tot (splitL t (tot ws) ws)),.int .i64 0]) (oent 22 1 o ((splitL t (tot ws) ws).map (.int .u64)) L) h) :
  Spec Tryz.prog 251 [.int .u64 t,wv] L h K:=by
 have hws0:=hws
 have hwd:=hws.word
 obtain ⟨wa,wc,rfl,_,hwl,_,hcs0⟩:=hws.open
 refine x_enter Tryz.func251 rfl (rs:=[_,_,_]) rfl rfl mixed (by kernel_rfl) (by kernel_rfl) rfl ?_
 refine xx ?_
 refine xnew fun b1 n_b1 h_b1=>?_
 try simp only [Apart] at n_b1
 refine xx ?_
 refine xnew fun b2 n_b2 h_b2=>?_
 try simp only [Apart] at n_b2
 refine xx ?_
 refine shWhole_any _ hws0 ?_
 by_cases c0:whoE ws=0
 ·have h2:=hk2 c0
  have hN:whoN ws=tot ws:=by rw [whoN,if_pos c0]
  have hlen:ws.length≤256:=by
   unfold whoE at c0
   split at c0
   ·assumption
   ·cases c0
  have htot:tot ws≤18446744073709551615:=by
   unfold whoE at c0
   rw [if_pos hlen] at c0
   split at c0
   ·assumption
   ·cases c0
  have ht0:=tot_nonneg fun i=>(hwd i).1
  rw [c0,hN]
  refine xx ?_
  refine shparts_any t (tot ws) wa ws.length wc fun b3 b4 b5 x1 x2 x3 x4 x5 x6 x7 x8 x9=>?_
  refine xx ?_
  refine xrange ⟨Tryz.f357,Tryz.func357,by decide +kernel,rfl⟩ fun l D fn tmps he hp ha hb nl hl=>?_
  have hsl:∀ k,k≤ws.length→0≤sumK (splitL t (tot ws) ws) k∧sumK (splitL t (tot ws) ws) k≤t:=fun k hk=>split_le ht.1 (fun i=>(hwd i).1) hk
  simp only [Apart] at nl
  generalize hR:lrec fn tmps _ _ _ D .ready none=R
  refine Spec.weaken (Drop.perm _ (List.perm_middle (l₁:=[_,_,_]) (l₂:=_::_::L) (a:=rblk l R)).symm) ?_
  refine parts1_any t (tot ws) ht ⟨ht0,htot⟩ (fun x hx=>tot_mem (fun i=>(hwd i).1) hx) (.slice wa ws.length wc) b5 b4 b3 l (fun e=>x6 e.symm) (fun e=>x7 e.symm) (fun e=>x3 e.symm)
   (fun j LL h1=>h1=h∧∃ o,okO o j∧apO o L h∧LL=rblk l R::⟨b2,22,[.int .u64 (t-sumK (splitL t (tot ws) ws) j)],1⟩::⟨b1,25,[ovs o j],1⟩::oent 22 1 o (spC t ws j) L) hws0 ?_ ⟨rfl,none,rfl,trivial,by rw [show sumK (splitL t (tot ws) ws) 0=0 from rfl,Int.sub_zero]; rfl⟩ ?_
  ·rintro j LL h1 hj ⟨rfl,o,ho,ao,rfl⟩ le1
   have hs1:=hsl j (by omega)
   have hs2:=hsl (j+1) (by omega)
   have hp1:0≤part4 t (tot ws) (at0 ws j):=by
    rcases part4_ok (w:=tot ws) ht.1 (hwd j).1 with ⟨g,_⟩ | g
    ·exact g
    ·exact absurd ht0 g
   have hss:sumK (splitL t (tot ws) ws) (j+1)=sumK (splitL t (tot ws) ws) j+part4 t (tot ws) (at0 ws j):=by
    rw [sumK,splitL,at0_mapI _ ws hj]
   simp only [List.cons_append,oent_app]
   subst hR
   refine yround mixed he hp ha hb rfl rfl rfl ?_
   refine xx ?_
   refine xnew fun b6 n_b6 h_b6=>?_
   try simp only [Apart] at n_b6
   refine xx ?_
   refine xappend (t:=25) (e:=22) (sz:=1) (bytes:=8) (z:=[.int .u64 0]) (by kernel_rfl) tI_22 rfl rfl rfl rfl (by decide) [_,_,_] _ o j _ ho (by rw [spC_len (by omega)]) (Src.own List.mem_cons_self) (m:=1) (news:=[.int .u64 (part4 t (tot ws) (at0 ws j))]) rfl (fun u hu=>by simp at hu; subst hu; rfl) (by simp [maxLen]; omega) (by omega) ?_
   intro o' j1 j2 j3
   rw [← spC_succ hj]
   refine xx ?_
   refine finY_drop (Drop.tail _ _ _) ?_
   refine ⟨rfl,PH.le_refl _,_,?_,rfl,o',j1,?_,rfl⟩
   ·simp only [List.cons_append,oent_app,hss,Int.sub_sub]
   ·exact apO_left (apO_tail (apO_tail (apO_tail j2)))
  ·rintro L2 h' le ⟨rfl,o,ho,ao,rfl⟩
   obtain ⟨x,y,e,hxy⟩:=ovs_open ho
   have e2:spC t ws ws.length=(splitL t (tot ws) ws).map (.int .u64):=by rw [spC,List.take_of_length_le (by simp [splitL])]
   have e3:sumK (splitL t (tot ws) ws) ws.length=tot (splitL t (tot ws) ws):=by rw [show tot (splitL t (tot ws) ws)=sumK (splitL t (tot ws) ws) (splitL t (tot ws) ws).length from rfl,show (splitL t (tot ws) ws).length=ws.length by simp [splitL]]
   have h3:=h2 o ho ao
   rw [e] at h3 ⊢
   rw [e2,e3]
   subst hR
   refine ⟨.ready,none,_,rfl,by decide,?_⟩
   refine xx ?_
   refine xanyl (.tkl 0 (.or true 1 (.or false 2 (.or false 3 (.tk 4 (.fin)) (.nil)) (.nil)) (.or false 2 (.or true 1 (.or false 3 (.tk 4 (.fin)) (.nil)) (.nil)) (.nil)))) (by kernel_rfl) (by kernel_rfl) _ (Drop.refl _ _) ?_
   refine xx ?_
   refine xpl_or ?_ ?_
   ·refine xx ?_
    exact fin_tail (fin_tail (fin_here h3))
   ·refine xx ?_
    exact fin_tail (fin_tail (fin_here h3))
 ·have h1:=hk1 c0
  have hN:whoN ws=0:=by rw [whoN,if_neg c0]
  rw [hN]
  refine xx ?_
  exact fin_tail (fin_tail (fin_here h1))
theorem at0_self (xs:List Int) {i:Nat} (v:Int) (hi:i<xs.length):at0 (xs.set i v) i=v:=by rw [at0_set _ _ _ _ hi,if_pos rfl]
theorem at0_ne (xs:List Int) {i j:Nat} (v:Int) (hij:j≠i):at0 (xs.set i v) j=at0 xs j:=by
 by_cases hi:i<xs.length
 ·rw [at0_set _ _ _ _ hi,if_neg (fun e=>hij e)]
 ·rw [List.set_eq_of_length_le (by omega)]
theorem sumK_set_lt {xs:List Int} {i:Nat} {v:Int}:∀ k,k≤i→sumK (xs.set i v) k=sumK xs k
 | 0,_=>rfl
 | k+1,hk=>by rw [sumK,sumK,sumK_set_lt k (by omega),at0_ne xs v (show k≠i by omega)]
theorem sumK_set_ge {xs:List Int} {i:Nat} {v:Int} (hi:i<xs.length):∀ k,i<k→sumK (xs.set i v) k=sumK xs k+(v-at0 xs i)
 | k+1,hk=>by
  rw [sumK,sumK]
  by_cases c:k=i
  ·subst c
   rw [sumK_set_lt k (Nat.le_refl _),at0_self xs v hi]
   omega
  ·rw [sumK_set_ge hi k (by omega),at0_ne xs v (by omega:k≠i)]
   omega
theorem tot_set {xs:List Int} {i:Nat} {v:Int} (hi:i<xs.length):tot (xs.set i v)=tot xs+(v-at0 xs i):=by
 rw [tot,List.length_set,sumK_set_ge hi _ hi]; rfl
structure SprOk (t:Int) (ws xs:List Int) (r:Int):Prop where
 len:xs.length=ws.length
 pos:∀ i,0≤at0 xs i
 sum:tot xs+r=t
 left:0≤r
theorem SprOk.at {t r:Int} {ws xs:List Int} (o:SprOk t ws xs r) (i:Nat):0≤at0 xs i∧at0 xs i+r≤t:=by
 have h1:=at0_le_tot o.pos i
 have h2:=o.sum
 exact ⟨o.pos i,by omega⟩
theorem div_step {A m d:Int} (hA:0≤A) (hm:0<m) (hd:0≤d∧d≤9):(A*10+d)/m=A/m*10+(A%m*10+d)/m∧(A*10+d)%m=(A%m*10+d)%m∧0≤(A%m*10+d)/m∧(A%m*10+d)/m≤9:=by
 have h1:=Int.mul_ediv_add_emod A m
 have h2:=Int.emod_nonneg A (show m≠0 by omega)
 have h3:=Int.emod_lt_of_pos A hm
 have e:A*10+d=(A%m*10+d)+m*(A/m*10):=by
  rw [← Int.mul_assoc]
  omega
 refine ⟨?_,?_,Int.ediv_nonneg (by omega) (by omega),?_⟩
 ·rw [e,Int.add_mul_ediv_left _ _ (by omega)]; omega
 ·rw [e,Int.add_mul_emod_self_left]
 ·have:(A%m*10+d)/m<10:=Int.ediv_lt_of_lt_mul hm (by omega)
  omega
theorem Dg.cons {d:Int} {rs:List Int} (h0:0≤d∧d≤9) (hr:Dg rs):Dg (d::rs)
 | 0=>h0
 | j+1=>hr j
theorem part4_le {t w x:Int} (ht:0≤t) (hx:0≤x) (hxw:x≤w):0≤part4 t w x∧part4 t w x≤t:=by
 unfold part4
 split
 ·rename_i c
  refine ⟨Int.ediv_nonneg (Int.mul_nonneg ht hx) (by omega),?_⟩
  have h1:t*x≤t*w:=Int.mul_le_mul_of_nonneg_left hxw ht
  have h2:t*x/w≤t*w/w:=Int.ediv_le_ediv c h1
  rwa [Int.mul_ediv_cancel _ (by omega)] at h2
 ·omega
end Go.X
