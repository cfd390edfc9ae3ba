/- Lemmas and contracts for a statement about the given program. Conditions: as each says. -/
import Derived.Test.YtmmfajokfdaokaaGreatQ19
import Derived.Test.YtmmfajokfdaokaaGreatQ20
import Derived.Test.YtmmfajokfdaokaaGreatQ22
import Derived.Test.YtmmfajokfdaokaaGreatQ25
set_option linter.unusedVariables false
set_option linter.unusedSimpArgs false
set_option maxHeartbeats 12800000
set_option maxRecDepth 20000
namespace Go.X
open Go.RowKit Go.Proofs Go.Bl
variable {L:Own} {h:PH} {K:PK}
theorem flatI_one {α:Type} {f:α→List Value} (h1:∀ a,∀ u∈f a,u.oneCell'=true) (l:List α):∀ u∈l.flatMap f,u.oneCell'=true:=fun u hu=>by
 obtain ⟨a,_,hb⟩:=List.mem_flatMap.1 hu
 exact h1 a u hb
theorem memC_one (m:MemD):∀ u∈memC m,u.oneCell'=true:=fun u hu=>by
 simp only [memC,List.mem_cons,List.not_mem_nil,or_false] at hu
 rcases hu with rfl | rfl | rfl | rfl | rfl | rfl<;>rfl
theorem depC_one (m:DepD):∀ u∈depC m,u.oneCell'=true:=fun u hu=>by
 simp only [depC,List.mem_cons,List.not_mem_nil,or_false] at hu
 rcases hu with rfl | rfl | rfl | rfl<;>rfl
theorem dueC_one (m:DueD):∀ u∈dueC m,u.oneCell'=true:=fun u hu=>by
 simp only [dueC,List.mem_cons,List.not_mem_nil,or_false] at hu
 rcases hu with rfl | rfl | rfl<;>rfl
theorem slice_one {v:Value} {h:PH} {k:IntKind} {xs:List Int} (hx:Ints h k v xs):v.oneCell'=true:=by
 obtain ⟨a,c,rfl,_⟩:=hx.open
 rfl
theorem motC_one {h:PH} {q:QM} (hq:IsMot h q):∀ u∈motC q,u.oneCell'=true:=fun u hu=>by
 have h1:=slice_one hq.y
 have h2:=slice_one hq.n
 simp only [motC,parC,List.mem_cons,List.mem_append,List.not_mem_nil,or_false] at hu
 rcases hu with rfl | rfl | hu | hu
 ·rfl
 ·rfl
 ·obtain rfl | rfl | rfl | rfl | rfl | rfl | rfl | rfl | rfl | rfl | rfl | rfl | rfl | rfl | rfl | rfl | rfl | rfl | rfl | rfl | rfl | rfl | rfl | rfl:=hu<;>rfl
 ·rcases hu with rfl | rfl | rfl | rfl | rfl | rfl | rfl
  ·rfl
  ·rfl
  ·rfl
  ·rfl
  ·rfl
  ·exact h1
  ·exact h2
theorem cloneM_own {l:List MemD} (v:Value) (hv:Recs memC 6 h v l) (hl:l.length≤1000) (hk:∀ o,okO o l.length→apO o L h→K (ovs o l.length) (oent 73 6 o (l.flatMap memC) L) h):Spec Tryz.prog 64 [v] L h K:=by
 have hx:=hv
 obtain ⟨a,ca,rfl,hna,hca,h0,_⟩:=hx.open
 refine x_enter Tryz.func64 rfl (rs:=[_]) rfl rfl mixed (by kernel_rfl) rfl rfl ?_
 refine xx ?_
 cases ha:a.isNone with
 | true =>
  have ha':a=none:=by simpa using ha
  subst ha'
  have hl0:l.length=0:=by have:=h0 rfl; omega
  have hx':l=[]:=List.eq_nil_of_length_eq_zero hl0
  subst hx'
  refine xx ?_
  exact fin_here (hk none rfl trivial)
 | false =>
  refine xx ?_
  refine xnew fun b1 n_b1 h_b1=>?_
  try simp only [Apart] at n_b1
  refine xx ?_
  refine xappend (t:=31) (e:=73) (sz:=6) (bytes:=48) (by kernel_rfl) tI_73 rfl rfl rfl rfl (by decide) [] L (some (b1,0)) 0 [] ⟨Nat.le_refl _,Nat.zero_le _⟩ rfl (Src.known hx.s) (news:=l.flatMap memC) (flatG_len memC_len l) (flatI_one memC_one l) (by simp [maxLen]; omega) (by omega) ?_
  intro o' j1 j2 j3
  simp only [Nat.zero_add,List.nil_append] at j1 j2 ⊢
  refine xx ?_
  exact fin_here (hk o' j1 j2)
theorem clonei_any {l:List Int} (v:Value) (hv:Ints h .i64 v l) (hl:l.length≤1000) (hk:∀ h' r,PH.le h h'→Ints h' .i64 r l→K r L h'):Spec Tryz.prog 65 [v] L h K:=by
 have hx:=hv
 obtain ⟨a,ca,rfl,hna,hca,h0,_⟩:=hx.open
 refine x_enter Tryz.func65 rfl (rs:=[_]) rfl rfl mixed (by kernel_rfl) rfl rfl ?_
 refine xx ?_
 cases ha:a.isNone with
 | true =>
  have ha':a=none:=by simpa using ha
  subst ha'
  have hl0:l.length=0:=by have:=h0 rfl; omega
  have hx':l=[]:=List.eq_nil_of_length_eq_zero hl0
  subst hx'
  refine xx ?_
  exact fin_here (hk h _ (PH.le_refl h) (nil_ints h .i64))
 | false =>
  refine xx ?_
  refine xnew fun b1 n_b1 h_b1=>?_
  try simp only [Apart] at n_b1
  refine xx ?_
  refine xappend (t:=32) (e:=3) (sz:=1) (bytes:=8) (by kernel_rfl) tI_3 rfl rfl rfl rfl (by decide) [] L (some (b1,0)) 0 [] ⟨Nat.le_refl _,Nat.zero_le _⟩ rfl (Src.known hx.1) (news:=l.map (Value.int .i64)) (by simp) (ints_one _ _) (by simp [maxLen]; omega) (by omega) ?_
  intro o' j1 j2 j3
  simp only [Nat.zero_add,List.nil_append] at j1 j2 ⊢
  refine xx ?_
  exact fin_pub (e:=3) (sz:=1) (n:=l.length) j1 (by simp) (by omega) j2 fun h' le sl=>fin_here (hk h' _ le ⟨sl,hx.2⟩)
theorem clonei_own {l:List Int} (v:Value) (hv:Ints h .i64 v l) (hl:l.length≤1000) (hk:∀ o,okO o l.length→apO o L h→K (ovs o l.length) (oent 3 1 o (l.map (.int .i64)) L) h):Spec Tryz.prog 65 [v] L h K:=by
 have hx:=hv
 obtain ⟨a,ca,rfl,hna,hca,h0,_⟩:=hx.open
 refine x_enter Tryz.func65 rfl (rs:=[_]) rfl rfl mixed (by kernel_rfl) rfl rfl ?_
 refine xx ?_
 cases ha:a.isNone with
 | true =>
  have ha':a=none:=by simpa using ha
  subst ha'
  have hl0:l.length=0:=by have:=h0 rfl; omega
  have hx':l=[]:=List.eq_nil_of_length_eq_zero hl0
  subst hx'
  refine xx ?_
  exact fin_here (hk none rfl trivial)
 | false =>
  refine xx ?_
  refine xnew fun b1 n_b1 h_b1=>?_
  try simp only [Apart] at n_b1
  refine xx ?_
  refine xappend (t:=32) (e:=3) (sz:=1) (bytes:=8) (by kernel_rfl) tI_3 rfl rfl rfl rfl (by decide) [] L (some (b1,0)) 0 [] ⟨Nat.le_refl _,Nat.zero_le _⟩ rfl (Src.known hx.1) (news:=l.map (Value.int .i64)) (by simp) (ints_one _ _) (by simp [maxLen]; omega) (by omega) ?_
  intro o' j1 j2 j3
  simp only [Nat.zero_add,List.nil_append] at j1 j2 ⊢
  refine xx ?_
  exact fin_here (hk o' j1 j2)
theorem cloneP_any {l:List DepD} (v:Value) (hv:Recs depC 4 h v l) (hl:l.length≤1000) (hk:∀ h' r,PH.le h h'→Recs depC 4 h' r l→K r L h'):Spec Tryz.prog 66 [v] L h K:=by
 have hx:=hv
 obtain ⟨a,ca,rfl,hna,hca,h0,_⟩:=hx.open
 refine x_enter Tryz.func66 rfl (rs:=[_]) rfl rfl mixed (by kernel_rfl) rfl rfl ?_
 refine xx ?_
 cases ha:a.isNone with
 | true =>
  have ha':a=none:=by simpa using ha
  subst ha'
  have hl0:l.length=0:=by have:=h0 rfl; omega
  have hx':l=[]:=List.eq_nil_of_length_eq_zero hl0
  subst hx'
  refine xx ?_
  exact fin_here (hk h _ (PH.le_refl h) (Recs.nil depC_len h))
 | false =>
  refine xx ?_
  refine xnew fun b1 n_b1 h_b1=>?_
  try simp only [Apart] at n_b1
  refine xx ?_
  refine xappend (t:=33) (e:=139) (sz:=4) (bytes:=32) (by kernel_rfl) tI_139 rfl rfl rfl rfl (by decide) [] L (some (b1,0)) 0 [] ⟨Nat.le_refl _,Nat.zero_le _⟩ rfl (Src.known hx.s) (news:=l.flatMap depC) (flatG_len depC_len l) (flatI_one depC_one l) (by simp [maxLen]; omega) (by omega) ?_
  intro o' j1 j2 j3
  simp only [Nat.zero_add,List.nil_append] at j1 j2 ⊢
  refine xx ?_
  exact fin_pub (e:=139) (sz:=4) (n:=l.length) j1 (flatG_len depC_len l) (by omega) j2 fun h' le sl=>fin_here (hk h' _ le (Recs.pub hx.len sl))
theorem cloneD_any {l:List DueD} (v:Value) (hv:Recs dueC 3 h v l) (hl:l.length≤34000) (hk:∀ h' r,PH.le h h'→Recs dueC 3 h' r l→K r L h'):Spec Tryz.prog 67 [v] L h K:=by
 have hx:=hv
 obtain ⟨a,ca,rfl,hna,hca,h0,_⟩:=hx.open
 refine x_enter Tryz.func67 rfl (rs:=[_]) rfl rfl mixed (by kernel_rfl) rfl rfl ?_
 refine xx ?_
 cases ha:a.isNone with
 | true =>
  have ha':a=none:=by simpa using ha
  subst ha'
  have hl0:l.length=0:=by have:=h0 rfl; omega
  have hx':l=[]:=List.eq_nil_of_length_eq_zero hl0
  subst hx'
  refine xx ?_
  exact fin_here (hk h _ (PH.le_refl h) (Recs.nil dueC_len h))
 | false =>
  refine xx ?_
  refine xnew fun b1 n_b1 h_b1=>?_
  try simp only [Apart] at n_b1
  refine xx ?_
  refine xappend (t:=34) (e:=142) (sz:=3) (bytes:=24) (by kernel_rfl) tI_142 rfl rfl rfl rfl (by decide) [] L (some (b1,0)) 0 [] ⟨Nat.le_refl _,Nat.zero_le _⟩ rfl (Src.known hx.s) (news:=l.flatMap dueC) (flatG_len dueC_len l) (flatI_one dueC_one l) (by simp [maxLen]; omega) (by omega) ?_
  intro o' j1 j2 j3
  simp only [Nat.zero_add,List.nil_append] at j1 j2 ⊢
  refine xx ?_
  exact fin_pub (e:=142) (sz:=3) (n:=l.length) j1 (flatG_len dueC_len l) (by omega) j2 fun h' le sl=>fin_here (hk h' _ le (Recs.pub hx.len sl))
theorem cloneT_own {l:List QM} (v:Value) (hv:Recs motC 33 h v l) (hm:∀ x∈l,IsMot h x) (hl:l.length≤1000) (hk:∀ o,okO o l.length→apO o L h→K (ovs o l.length) (oent 75 33 o (l.flatMap motC) L) h):Spec Tryz.prog 68 [v] L h K:=by
 have hx:=hv
 obtain ⟨a,ca,rfl,hna,hca,h0,_⟩:=hx.open
 refine x_enter Tryz.func68 rfl (rs:=[_]) rfl rfl mixed (by kernel_rfl) rfl rfl ?_
 refine xx ?_
 cases ha:a.isNone with
 | true =>
  have ha':a=none:=by simpa using ha
  subst ha'
  have hl0:l.length=0:=by have:=h0 rfl; omega
  have hx':l=[]:=List.eq_nil_of_length_eq_zero hl0
  subst hx'
  refine xx ?_
  exact fin_here (hk none rfl trivial)
 | false =>
  refine xx ?_
  refine xnew fun b1 n_b1 h_b1=>?_
  try simp only [Apart] at n_b1
  refine xx ?_
  refine xappend (t:=35) (e:=75) (sz:=33) (bytes:=296) (by kernel_rfl) tI_75 rfl rfl rfl rfl (by decide) [] L (some (b1,0)) 0 [] ⟨Nat.le_refl _,Nat.zero_le _⟩ rfl (Src.known hx.s) (news:=l.flatMap motC) (flatG_len motC_len l) (fun u hu=>by obtain ⟨a,hq,hb⟩:=List.mem_flatMap.1 hu; exact motC_one (hm a hq) u hb) (by simp [maxLen]; omega) (by omega) ?_
  intro o' j1 j2 j3
  simp only [Nat.zero_add,List.nil_append] at j1 j2 ⊢
  refine xx ?_
  exact fin_here (hk o' j1 j2)
theorem cloneR_own {l:List QS} (v:Value) (hv:Strs h v l) (hl:l.length≤1000) (hk:∀ o,okO o l.length→apO o L h→K (ovs o l.length) (oent 36 1 o (vsL l) L) h):Spec Tryz.prog 70 [v] L h K:=by
 have hx:=hv
 obtain ⟨a,ca,rfl,hna,hca,h0,_⟩:=hx.open
 refine x_enter Tryz.func70 rfl (rs:=[_]) rfl rfl mixed (by kernel_rfl) rfl rfl ?_
 refine xx ?_
 cases ha:a.isNone with
 | true =>
  have ha':a=none:=by simpa using ha
  subst ha'
  have hl0:l.length=0:=by have:=h0 rfl; omega
  have hx':l=[]:=List.eq_nil_of_length_eq_zero hl0
  subst hx'
  refine xx ?_
  exact fin_here (hk none rfl trivial)
 | false =>
  refine xx ?_
  refine xnew fun b1 n_b1 h_b1=>?_
  try simp only [Apart] at n_b1
  refine xx ?_
  refine xappend (t:=37) (e:=36) (sz:=1) (bytes:=24) (by kernel_rfl) tI_36 rfl rfl rfl rfl (by decide) [] L (some (b1,0)) 0 [] ⟨Nat.le_refl _,Nat.zero_le _⟩ rfl (Src.known hx.s) (news:=vsL l) (by simp [vsL]) (fun u hu=>by obtain ⟨q,hq,rfl⟩:=List.mem_map.1 hu; exact slice_one (hv.d q hq)) (by simp [maxLen]; omega) (by omega) ?_
  intro o' j1 j2 j3
  simp only [Nat.zero_add,List.nil_append] at j1 j2 ⊢
  refine xx ?_
  exact fin_here (hk o' j1 j2)
theorem flat_ne {i j w m m':Nat} (hm:m<w) (hm':m'<w) (hij:i≠j):i*w+m≠j*w+m':=fun e=>by
 rcases Nat.lt_or_gt_of_ne hij with c | c
 ·have:=Nat.mul_le_mul_right w (show i+1≤j from c)
  rw [Nat.succ_mul] at this
  omega
 ·have:=Nat.mul_le_mul_right w (show j+1≤i from c)
  rw [Nat.succ_mul] at this
  omega
theorem flat_lt {i n w m:Nat} (hi:i<n) (hm:m<w):i*w+m<n*w:=by
 have:=Nat.mul_le_mul_right w (show i+1≤n from hi)
 rw [Nat.succ_mul] at this
 omega
theorem flatG_set {α:Type} {f:α→List Value} {w:Nat} (hf:∀ a,(f a).length=w) (z:α) (l:List α) {i m:Nat} (hi:i<l.length) (hm:m<w) {u:Value} {a':α} (ha:f a'=(f (gr z l i)).set m u):(l.flatMap f).set (i*w+m) u=(l.set i a').flatMap f:=by
 apply List.ext_getElem?
 intro n
 obtain ⟨j,m',rfl,hm'⟩:∃ j m',n=j*w+m'∧m'<w:=⟨n/w,n%w,by rw [Nat.mul_comm,Nat.div_add_mod],Nat.mod_lt _ (by omega)⟩
 rw [flatG_get hf _ j m' hm',List.getElem?_set,flatG_get hf _ j m' hm',List.getElem?_set]
 by_cases e:i=j
 ·subst e
  have hll:i*w+m<(l.flatMap f).length:=by rw [flatG_len hf]; exact flat_lt hi hm
  rw [if_pos rfl,if_pos hi]
  show _=(f a')[m']?
  rw [ha,List.getElem?_set,gr_lt hi]
  by_cases e2:m=m'
  ·subst e2
   rw [if_pos rfl,if_pos hll,if_pos rfl,if_pos (by rw [hf]; exact hm)]
  ·rw [if_neg (by omega),if_neg e2,List.getElem?_eq_getElem hi]
   rfl
 ·rw [if_neg (flat_ne hm hm' e),if_neg e]
theorem xNth_rec {α:Type} {f:α→List Value} {w:Nat} (hf:∀ a,(f a).length=w) (z:α) (l:List α) {i m:Nat} (hi:i<l.length) (hm:m<w) {u:Value} (hu:(f (gr z l i))[m]?=some u) (K:Value→Prop) (t:Tok K):xNth (l.flatMap f) (i*w+m) K t=K u :=
 xNth_of (by rw [flatG_get hf l i m hm,List.getElem?_eq_getElem hi,← gr_lt (z:=z) hi]; exact hu)
theorem oent_congr {e sz:Nat} (o:Option (Nat×Nat)) (xs:List Value) {L L':Own} (hp:L.Perm L'):(oent e sz o xs L).Perm (oent e sz o xs L'):=by
 cases o with
 | none=>exact hp
 | some p=>exact List.Perm.cons _ hp
def StrsOk (h:PH) (q:List QS):Prop:=∀ p∈q,Ints h .u8 p.1 p.2
def MotsOk (h:PH) (q:List QM):Prop:=∀ x∈q,IsMot h x
structure OwnFew (s:StD):Prop where
 p:s.purses.length≤1000
 m:s.members.length≤1000
 e:s.entry.length≤1000
 x:s.exit.length≤1000
 o:s.pool.length≤1000
 d:s.dues.length≤34000
 t:s.motions.length≤1000
 k:s.marks.length≤1000
 r:s.ring.length≤1000
 v:∀ m∈s.motions,m.yes.length≤1000∧m.no.length≤1000
 b:∀ b∈s.ring,b.length≤1000
abbrev setM (u:SV) (m:Value):SV:=⟨u.p,m,u.e,u.x,u.o,u.d,u.t,u.k,u.r⟩
theorem there_any {xs:List Int} (v:Value) (hx:Ints h .u64 v xs) (i:Nat) (hi:i<xs.length) (hk:K (.bool true) L h):Spec Tryz.prog 351 [v,.int .i64 i] L h K:=by
 obtain ⟨a,c,rfl,_,hl,_⟩:=hx.open
 refine x_enter Tryz.func351 rfl (rs:=[_]) rfl rfl mixed (by kernel_rfl) rfl rfl ?_
 refine xx ?_
 exact fin_here hk
theorem has_any {xs:List Int} (v:Value) (hx:Ints h .u64 v xs) (i:Nat) (hi:i<xs.length) (hk:K (.tuple #[.int .u64 (at0 xs i),.int .i64 0]) L h):Spec Tryz.prog 326 [v,.int .i64 i] L h K:=by
 have hx0:=hx
 obtain ⟨a,c,rfl,_,hl,_,hcs⟩:=hx.open
 refine x_enter Tryz.func326 rfl (rs:=[_,_]) rfl rfl mixed (by kernel_rfl) rfl rfl ?_
 refine xx ?_
 refine there_any _ hx0 i hi ?_
 simp -dsimp -implicitDefEqProofs (disch:=first|with_reducible assumption|omega) [go_sem,idx hcs]
 exact fin_here hk
theorem pwith_any {xs:List Int} (v:Value) (hx:Ints h .u64 v xs) (hl:xs.length≤1000) (i:Nat) (hi:i<xs.length) (n:Int) (hn:0≤n∧n≤18446744073709551615) (hk:∀ h' r,PH.le h h'→Ints h' .u64 r (xs.set i n)→K r L h'):Spec Tryz.prog 327 [v,.int .i64 i,.int .u64 n] L h K:=by
 have hx0:=hx
 have hxw:=hx.word
 obtain ⟨a,c,rfl,_,hl2,_,hcs⟩:=hx.open
 refine x_enter Tryz.func327 rfl (rs:=[_]) rfl rfl mixed (by kernel_rfl) rfl rfl ?_
 refine xx ?_
 refine xMS_full (e:=22) (z:=.int .u64 0) (by kernel_rfl) tI_22 rfl rfl .i64 .i64 _ (by omega) (by simp; omega) (by omega) ?_
 simp only [Int.toNat_natCast]
 refine xnew fun b1 n_b1 h_b1=>?_
 try simp only [Apart] at n_b1
 refine xx ?_
 refine xcopy (e:=22) (sz:=1) (by kernel_rfl) tI_22 rfl (Src.known hx0.1) (by simp) (Nat.le_refl _) ?_
 have hw:wr (List.replicate xs.length (Value.int .u64 0)) 0 (xs.map (Value.int .u64))=xs.map (Value.int .u64):=by
  rw [wr_eq _ _ _ (by simp)]
  simp
 simp -dsimp -implicitDefEqProofs (disch:=first|with_reducible assumption|omega) [go_sem,hw,xNth_ints]
 refine ⟨by omega,?_⟩
 rw [← List.map_set]
 have:=fin_pub (K:=K) (L:=L) (v:=.slice (some ⟨b1,0,none⟩) xs.length xs.length) (e:=22) (sz:=1) (o:=some (b1,xs.length)) (n:=xs.length) (xs:=(xs.set i n).map (.int .u64)) (h:=h) (L0:=L) ⟨Nat.le_refl _,by simp [maxLen]; omega⟩ (by simp) (by omega) ⟨n_b1,h_b1⟩ fun h' le sl=>fin_here (hk h' _ le ⟨by rw [List.length_set]; exact sl,fun z hz=>by
  rw [show IntKind.u64.min=0 by decide,show IntKind.u64.max=18446744073709551615 by decide]
  rcases List.mem_or_eq_of_mem_set hz with hz | rfl
  ·have:=hx0.2 z hz
   rwa [show IntKind.u64.min=0 by decide,show IntKind.u64.max=18446744073709551615 by decide] at this
  ·exact hn⟩)
 simpa only [oent,Nat.mul_one] using this
theorem pay_any {xs:List Int} (v:Value) (hx:Ints h .u64 v xs) (hl:xs.length≤1000) (i:Nat) (hi:i<xs.length) (n:Int) (hn:0≤n) (hs:at0 xs i+n≤4611686018427387904) (hk:∀ h' r,PH.le h h'→Ints h' .u64 r (xs.set i (at0 xs i+n))→K (.tuple #[r,.int .i64 0]) L h'):Spec Tryz.prog 257 [v,.int .i64 i,.int .u64 n] L h K:=by
 have hx0:=hx
 have hw:=hx.word i
 obtain ⟨a,c,rfl,_,hl2,_⟩:=hx.open
 refine x_enter Tryz.func257 rfl (rs:=[_,_]) rfl rfl mixed (by kernel_rfl) rfl rfl ?_
 refine xx ?_
 refine has_any _ hx0 i hi ?_
 refine xx ?_
 refine madd_any (at0 xs i) n hw (by omega) ?_
 rw [sumV_ok (by omega)]
 refine xx ?_
 refine pwith_any _ hx0 hl i hi _ (by omega) fun h1 r le i1=>?_
 obtain ⟨ra,rc,rfl,_⟩:=i1.open
 have h2:=hk h1 _ le i1
 rw [List.length_set] at h2
 refine xx ?_
 exact fin_here h2
theorem gclamp_any (p:ParD) (ok:ParOk p) (hr:parR p=true) (b:Int) (hb:0≤b∧b≤18446744073709551615) (hk:K (.tuple #[.int .u64 (min b p.cap),.int .u64 (b-min b p.cap)]) L h):Spec Tryz.prog 163 [parV p,.int .u64 b] L h K:=by
 have hc:=ok.w p.cap (by simp [wides])
 refine x_enter Tryz.func163 rfl (rs:=[_,_]) rfl rfl mixed (by kernel_rfl) rfl rfl ?_
 refine xx ?_
 refine xnew fun b1 n_b1 h_b1=>?_
 try simp only [Apart] at n_b1
 refine xx ?_
 refine scaled_any p ok ?_
 rw [hr]
 refine xx ?_
 refine xnew fun b2 n_b2 h_b2=>?_
 try simp only [Apart] at n_b2
 refine xx ?_
 have take:∀ {K':PK} {L':Own},K' (.tuple #[.int .u64 (min b p.cap),.int .u64 (b-min b p.cap)]) L' h→Spec Tryz.prog 255 [.int .u64 b,.int .u64 p.cap] L' h K':=fun {K' L'} hK=>by
  refine x_enter Tryz.func255 rfl (rs:=[_,_]) rfl rfl mixed (by kernel_rfl) rfl rfl ?_
  refine xx ?_
  exact fin_here hK
 refine take ?_
 refine xx ?_
 exact fin_tail (fin_tail (fin_here hk))
theorem gnext_any (p:ParD) (ok:ParOk p) (hr:parR p=true) (e b:Int) (he:0≤e∧e≤18446744073709551615) (hb:0≤b∧b≤18446744073709551615) (hk:K (.int .u64 (nextP p e b)) L h):Spec Tryz.prog 166 [parV p,.int .u64 e,.int .u64 b] L h K:=by
 refine x_enter Tryz.func166 rfl (rs:=[_]) rfl rfl mixed (by kernel_rfl) rfl rfl ?_
 refine xx ?_
 refine xnew fun b1 n_b1 h_b1=>?_
 try simp only [Apart] at n_b1
 refine xx ?_
 refine scaled_any p ok ?_
 rw [hr]
 refine xx ?_
 refine xnew fun b2 n_b2 h_b2=>?_
 try simp only [Apart] at n_b2
 refine xx ?_
 refine next_any p ok (inc_pos hr) e b he hb ?_
 refine xx ?_
 exact fin_tail (fin_tail (fin_here hk))
theorem fset {l:List MemD} {k:Nat} (hk:k<l.length) {i:Nat} (hi:i<6) {u:Value} {a a':MemD} (ha:memC a'=(memC a).set i u):((l.set k a).flatMap memC).set (k*6+i) u=(l.set k a').flatMap memC:=by
 rw [flatG_set memC_len zeroM (l.set k a) (by rw [List.length_set]; exact hk) hi (a':=a') (by rw [gr_lt (by rw [List.length_set]; exact hk),List.getElem_set_self]; exact ha),List.set_set]
theorem fset4 {l:List MemD} {k:Nat} (hk:k<l.length) (a b:MemD) (ho:b.owner=a.owner) (hs:b.status=a.status) :
  (((((l.set k a).flatMap memC).set (k*6) (.int .u64 b.bal)).set (k*6+1) (.int .u64 b.eff)).set (k*6+2) (.int .u64 b.score)).set (k*6+3) (.int .i64 b.streak)=(l.set k b).flatMap memC:=by
 have h0:((l.set k a).flatMap memC).set (k*6) (.int .u64 b.bal)=(l.set k { a with bal:=b.bal }).flatMap memC:=fset hk (i:=0) (by decide) rfl
 have h1:((l.set k { a with bal:=b.bal }).flatMap memC).set (k*6+1) (.int .u64 b.eff)=(l.set k { a with bal:=b.bal,eff:=b.eff }).flatMap memC:=fset hk (by decide) rfl
 have h2:((l.set k { a with bal:=b.bal,eff:=b.eff }).flatMap memC).set (k*6+2) (.int .u64 b.score)=(l.set k { a with bal:=b.bal,eff:=b.eff,score:=b.score }).flatMap memC:=fset hk (by decide) rfl
 have h3:((l.set k { a with bal:=b.bal,eff:=b.eff,score:=b.score }).flatMap memC).set (k*6+3) (.int .i64 b.streak)=(l.set k { a with bal:=b.bal,eff:=b.eff,score:=b.score,streak:=b.streak }).flatMap memC:=fset hk (by decide) rfl
 rw [h0,h1,h2,h3]
 have:({ a with bal:=b.bal,eff:=b.eff,score:=b.score,streak:=b.streak }:MemD)=b:=by
  cases a; cases b; simp only at ho hs; subst ho; subst hs; rfl
 rw [this]
def clampM (q:ParD) (m:MemD):MemD:=trimM q { m with bal:=min m.bal q.cap }
def settleM (q:ParD) (m:MemD):MemD:={ m with eff:=if gfitsP q (nextP q m.eff m.bal) m.bal then nextP q m.eff m.bal else wholeP q m.bal }
end Go.X
