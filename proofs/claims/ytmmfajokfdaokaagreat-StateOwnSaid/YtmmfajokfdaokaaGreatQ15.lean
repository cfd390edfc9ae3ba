/- Lemmas and contracts for a statement about the given program. Conditions: as each says. -/
import Derived.Test.YtmmfajokfdaokaaGreatQ09
import Derived.Test.YtmmfajokfdaokaaGreatQ13
import Derived.Test.YtmmfajokfdaokaaGreatQ14
set_option linter.unusedVariables false
set_option linter.unusedSimpArgs false
set_option maxHeartbeats 12800000
set_option maxRecDepth 20000
namespace Go.X
open Go.RowKit Go.Proofs Go.Bl
variable {L:Own} {h:PH} {K:PK}
abbrev depV (d:DepD):Value := .agg #[.int .i64 d.acct,.int .i64 d.mem,.int .u64 d.amt,.bool d.new]
def depB (d:DepD):Bool:=wi d.acct 0 63&&wi d.mem 0 127 && !(d.new&&decide (d.mem≠0))&&decide (1≤d.amt)&&decide (d.amt≤4611686018427387904)
theorem cloneDep_nil (hk:K (.slice none 0 0) L h):Spec Tryz.prog 66 [.slice none 0 0] L h K:=by
 refine x_enter Tryz.func66 rfl (rs:=[_]) rfl rfl mixed (by kernel_rfl) rfl rfl ?_
 refine xx ?_
 exact fin_here hk
theorem padd_any (d:DepD) (ok:DepOk d) (hk:∀ a n c,K (.tuple #[.slice a n c,.int .i64 (if depB d then 0 else 2)]) L h):Spec Tryz.prog 132 [.slice none 0 0,depV d] L h K:=by
 have ua:=ok.a
 refine x_enter Tryz.func132 rfl (rs:=[_,_]) rfl rfl mixed (by kernel_rfl) rfl rfl ?_
 refine xx ?_
 refine xnew fun b1 n_b1 h_b1=>?_
 try simp only [Apart] at n_b1
 refine xx ?_
 refine pwi_any _ _ _ ?_
 cases q1:wi d.acct 0 63 with
 | false =>
  simp only [depB,q1,Bool.false_and,Bool.false_eq_true,if_false] at hk
  refine xx ?_
  exact fin_tail (fin_here (hk none 0 0))
 | true =>
 refine xx ?_
 refine pwi_any _ _ _ ?_
 cases q2:wi d.mem 0 127 with
 | false =>
  simp only [depB,q2,Bool.and_false,Bool.false_and,Bool.false_eq_true,if_false] at hk
  refine xx ?_
  exact fin_tail (fin_here (hk none 0 0))
 | true =>
 have fin1:(d.new&&decide (d.mem≠0))=true→depB d=false:=fun e=>by simp only [depB,e,Bool.not_true,Bool.and_false,Bool.false_and]
 have rest:(d.new&&decide (d.mem≠0))=false→depB d=(decide (1≤d.amt)&&decide (d.amt≤4611686018427387904)):=fun e=>by simp only [depB,e,q1,q2,Bool.not_false,Bool.true_and]
 cases q3:d.new with
 | true =>
  have q3':=q3
  by_cases q4:d.mem=0
  ·rw [rest (by simp [q4])] at hk
   by_cases q5:1≤d.amt
   ·by_cases q6:d.amt≤4611686018427387904
    ·rw [decide_eq_true q5,decide_eq_true q6] at hk
     refine xx ?_
     refine xanyl (.tk 0 (.tkl 2 (.or true 1 (.or true 3 (.or true 4 (.tk 5 (.tk 6 (.fin))) (.nil)) (.nil)) (.or true 3 (.or true 1 (.or true 4 (.tk 5 (.tk 6 (.fin))) (.nil)) (.nil)) (.nil))))) (by kernel_rfl) (by kernel_rfl) _ (Drop.refl _ _) ?_
     refine xx ?_
     refine xpl_or ?_ ?_
     ·refine xx ?_
      refine cloneDep_nil ?_
      refine xkp (Drop.refl _ _) ?_
      refine xx ?_
      refine xnew fun b2 n_b2 h_b2=>?_
      try simp only [Apart] at n_b2
      refine xkp (Drop.tail _ _ _) ?_
      refine xx ?_
      refine xappend (t:=33) (e:=139) (sz:=4) (bytes:=32) (by kernel_rfl) tI_139 rfl rfl rfl rfl (by decide) [_] _ none 0 [] rfl rfl (Src.own (b:=b2) List.mem_cons_self) (m:=1) (news:=[.int .i64 d.acct,.int .i64 d.mem,.int .u64 d.amt,.bool true]) rfl (by intro u hu; simp only [List.mem_cons,List.not_mem_nil,or_false] at hu; rcases hu with rfl | rfl | rfl | rfl<;>rfl) (by decide) (by decide) ?_
      intro o' j1 j2 j3
      have ho:=ovs_open j1
      obtain ⟨a',c',e',_⟩:=ho
      rw [e']
      refine xx ?_
      refine xkp (Drop.trans (Drop.tail _ _ _) (Drop.oent _ _ _ _ _ _)) ?_
      refine xx ?_
      exact fin_tail (fin_oent (fin_tail (fin_here (hk _ _ _))))
     ·refine xx ?_
      refine xnew fun b2 n_b2 h_b2=>?_
      try simp only [Apart] at n_b2
      refine xkp (Drop.tail _ _ _) ?_
      refine xx ?_
      refine cloneDep_nil ?_
      refine xkp (Drop.tail _ _ _) ?_
      refine xx ?_
      refine xappend (t:=33) (e:=139) (sz:=4) (bytes:=32) (by kernel_rfl) tI_139 rfl rfl rfl rfl (by decide) [_] _ none 0 [] rfl rfl (Src.own (b:=b2) List.mem_cons_self) (m:=1) (news:=[.int .i64 d.acct,.int .i64 d.mem,.int .u64 d.amt,.bool true]) rfl (by intro u hu; simp only [List.mem_cons,List.not_mem_nil,or_false] at hu; rcases hu with rfl | rfl | rfl | rfl<;>rfl) (by decide) (by decide) ?_
      intro o' j1 j2 j3
      have ho:=ovs_open j1
      obtain ⟨a',c',e',_⟩:=ho
      rw [e']
      refine xx ?_
      refine xkp (Drop.trans (Drop.tail _ _ _) (Drop.oent _ _ _ _ _ _)) ?_
      refine xx ?_
      exact fin_tail (fin_oent (fin_tail (fin_here (hk _ _ _))))
    ·simp only [decide_eq_false q6,Bool.and_false,Bool.false_eq_true,if_false] at hk
     refine xx ?_
     exact fin_tail (fin_here (hk none 0 0))
   ·simp only [decide_eq_false q5,Bool.false_and,Bool.false_eq_true,if_false] at hk
    refine xx ?_
    exact fin_tail (fin_here (hk none 0 0))
  ·rw [fin1 (by simp [q3,q4])] at hk
   refine xx ?_
   exact fin_tail (fin_here (hk none 0 0))
 | false =>
  rw [rest (by simp [q3])] at hk
  by_cases q5:1≤d.amt
  ·by_cases q6:d.amt≤4611686018427387904
   ·rw [decide_eq_true q5,decide_eq_true q6] at hk
    refine xx ?_
    refine xanyl (.tk 0 (.tkl 2 (.or true 1 (.or true 3 (.or true 4 (.tk 5 (.tk 6 (.fin))) (.nil)) (.nil)) (.or true 3 (.or true 1 (.or true 4 (.tk 5 (.tk 6 (.fin))) (.nil)) (.nil)) (.nil))))) (by kernel_rfl) (by kernel_rfl) _ (Drop.refl _ _) ?_
    refine xx ?_
    refine xpl_or ?_ ?_
    ·refine xx ?_
     refine cloneDep_nil ?_
     refine xkp (Drop.refl _ _) ?_
     refine xx ?_
     refine xnew fun b2 n_b2 h_b2=>?_
     try simp only [Apart] at n_b2
     refine xkp (Drop.tail _ _ _) ?_
     refine xx ?_
     refine xappend (t:=33) (e:=139) (sz:=4) (bytes:=32) (by kernel_rfl) tI_139 rfl rfl rfl rfl (by decide) [_] _ none 0 [] rfl rfl (Src.own (b:=b2) List.mem_cons_self) (m:=1) (news:=[.int .i64 d.acct,.int .i64 d.mem,.int .u64 d.amt,.bool false]) rfl (by intro u hu; simp only [List.mem_cons,List.not_mem_nil,or_false] at hu; rcases hu with rfl | rfl | rfl | rfl<;>rfl) (by decide) (by decide) ?_
     intro o' j1 j2 j3
     have ho:=ovs_open j1
     obtain ⟨a',c',e',_⟩:=ho
     rw [e']
     refine xx ?_
     refine xkp (Drop.trans (Drop.tail _ _ _) (Drop.oent _ _ _ _ _ _)) ?_
     refine xx ?_
     exact fin_tail (fin_oent (fin_tail (fin_here (hk _ _ _))))
    ·refine xx ?_
     refine xnew fun b2 n_b2 h_b2=>?_
     try simp only [Apart] at n_b2
     refine xkp (Drop.tail _ _ _) ?_
     refine xx ?_
     refine cloneDep_nil ?_
     refine xkp (Drop.tail _ _ _) ?_
     refine xx ?_
     refine xappend (t:=33) (e:=139) (sz:=4) (bytes:=32) (by kernel_rfl) tI_139 rfl rfl rfl rfl (by decide) [_] _ none 0 [] rfl rfl (Src.own (b:=b2) List.mem_cons_self) (m:=1) (news:=[.int .i64 d.acct,.int .i64 d.mem,.int .u64 d.amt,.bool false]) rfl (by intro u hu; simp only [List.mem_cons,List.not_mem_nil,or_false] at hu; rcases hu with rfl | rfl | rfl | rfl<;>rfl) (by decide) (by decide) ?_
     intro o' j1 j2 j3
     have ho:=ovs_open j1
     obtain ⟨a',c',e',_⟩:=ho
     rw [e']
     refine xx ?_
     refine xkp (Drop.trans (Drop.tail _ _ _) (Drop.oent _ _ _ _ _ _)) ?_
     refine xx ?_
     exact fin_tail (fin_oent (fin_tail (fin_here (hk _ _ _))))
   ·simp only [decide_eq_false q6,Bool.and_false,Bool.false_eq_true,if_false] at hk
    refine xx ?_
    exact fin_tail (fin_here (hk none 0 0))
  ·simp only [decide_eq_false q5,Bool.false_and,Bool.false_eq_true,if_false] at hk
   refine xx ?_
   exact fin_tail (fin_here (hk none 0 0))
def dep1B (s:StD) (d:DepD):Bool:=depB d&&acctB s d.acct&&(d.new||wi d.mem 0 ((s.members.length:Int)-1))
def due1B (s:StD) (d:DueD):Bool:=acctB s d.acct&&wi d.at' 0 2147483647&&decide (1≤d.amt)&&decide (d.amt≤4611686018427387904)
def metB (l:List DueD) (k:Nat):Bool:=(List.range k).any fun j=>decide ((gr zeroDue l k).acct=(gr zeroDue l j).acct)&&decide ((gr zeroDue l k).at'=(gr zeroDue l j).at')
def ordB (l:List DueD) (k:Nat):Bool:=decide (k=0)||decide ((gr zeroDue l (k-1)).at'≤(gr zeroDue l k).at')
def dueB (s:StD) (k:Nat):Bool:=due1B s (gr zeroDue s.dues k) && !metB s.dues k&&ordB s.dues k
def duesB (s:StD):Bool:=(List.range s.dues.length).all (dueB s)
def poolsB (s:StD):Bool:=decide (s.pool.length≤256)&&s.pool.all (dep1B s)&&duesB s
theorem dueMap:Tryz.prog.underlying 217=some (.map 142 4):=by kernel_rfl
theorem dueKey:KeyT Tryz.prog 142 [.i64,.i64,.u64]:=⟨by kernel_rfl,by kernel_rfl,by kernel_rfl⟩
theorem zeroBool (W:World):(zeroValue 4:Sem Value).run Tryz.prog W = .ok (.bool false) W:=by kernel_rfl
def keyD (d:DueD):List Int:=[d.acct,d.at',0]
def esD (l:List DueD) (k:Nat):List (List Int×Value):=(l.take k).map fun d=>(keyD d,.bool true)
theorem esD_succ {l:List DueD} {k:Nat} (hk:k<l.length):esD l (k+1)=esD l k++[(keyD (gr zeroDue l k),.bool true)]:=by
 rw [gr_lt hk,esD,esD,List.take_succ_eq_append_getElem hk,List.map_append]; rfl
theorem esD_len (l:List DueD) (k:Nat):∀ e∈esD l k,e.1.length=3:=fun e he=>by
 obtain ⟨d,_,rfl⟩:=List.mem_map.1 he; rfl
theorem getK_none {es:List (List Int×Value)} {n:List Int} (h:∀ e∈es,e.1≠n):getK es n=none:=by
 induction es with
 | nil=>rfl
 | cons e es ih=>rw [getK,if_neg (fun c=>h e (by simp) c.symm)]; exact ih fun x hx=>h x (by simp [hx])
theorem getK_some {es:List (List Int×Value)} {n:List Int} {v:Value} (h:∃ e∈es,e.1=n) (hv:∀ e∈es,e.2=v):getK es n=some v:=by
 induction es with
 | nil=>obtain ⟨e,he,_⟩:=h; cases he
 | cons e es ih =>
  rw [getK]
  split
  ·rw [hv e (by simp)]
  ·rename_i c
   refine ih ?_ fun x hx=>hv x (by simp [hx])
   obtain ⟨x,hx,hxe⟩:=h
   rcases List.mem_cons.1 hx with rfl | hx
   ·exact absurd hxe.symm c
   ·exact ⟨x,hx,hxe⟩
theorem keyD_eq {a b:DueD}:keyD a=keyD b↔a.acct=b.acct∧a.at'=b.at':=by simp [keyD]
theorem met_get {l:List DueD} {k:Nat} (hk:k<l.length):(metB l k=false→getK (esD l k) (keyD (gr zeroDue l k))=none)∧(metB l k=true→getK (esD l k) (keyD (gr zeroDue l k))=some (.bool true)):=by
 constructor
 ·intro hm
  rw [metB,List.any_eq_false] at hm
  refine getK_none fun e he hc=>?_
  obtain ⟨d,hd,rfl⟩:=List.mem_map.1 he
  obtain ⟨j,hj,rfl⟩:=List.mem_iff_getElem.1 hd
  simp only [List.length_take] at hj
  have:=hm j (List.mem_range.2 (by omega))
  rw [List.getElem_take] at hc
  have hc':=keyD_eq.1 hc
  rw [gr_lt (l:=l) (i:=j) (by omega)] at this
  simp [hc'.1,hc'.2] at this
 ·intro hm
  rw [metB,List.any_eq_true] at hm
  obtain ⟨j,hj,hq⟩:=hm
  have hj':=List.mem_range.1 hj
  simp only [Bool.and_eq_true,decide_eq_true_eq] at hq
  refine getK_some ⟨(keyD (gr zeroDue l j),.bool true),?_,keyD_eq.2 ⟨hq.1.symm,hq.2.symm⟩⟩ fun e he=>?_
  ·refine List.mem_map.2 ⟨gr zeroDue l j,?_,rfl⟩
   rw [gr_lt (by omega)]
   exact List.mem_iff_getElem.2 ⟨j,by simp; omega,by simp⟩
  ·obtain ⟨d,_,rfl⟩:=List.mem_map.1 he; rfl
theorem met_val {l:List DueD} {k:Nat} (hk:k<l.length):(getK (esD l k) (keyD (gr zeroDue l k))).getD (.bool false) = .bool (metB l k):=by
 cases hm:metB l k with
 | false=>rw [(met_get hk).1 hm]; rfl
 | true=>rw [(met_get hk).2 hm]; rfl
theorem not_duesB {s:StD} {k:Nat} (hk:k<s.dues.length) (hq:dueB s k=false):duesB s=false:=by
 rw [duesB,List.all_eq_false]; exact ⟨k,List.mem_range.2 hk,by simp [hq]⟩
theorem pools_any {s:StD} (v:SV) (hs:IsSt h v s) (few:FewS s) (hk:K (.bool (poolsB s)) L h):Spec Tryz.prog 61 [stV s v] L h K:=by
 obtain ⟨pa,pc,ma,mc,ea,ec,xa,xc,oa,oc,da,dc,ta,tc,ka,kc,ra,rc,rfl⟩:=hs.slices
 have ho:Recs depC 4 h (.slice oa s.pool.length oc) s.pool:=hs.o
 have hd:Recs dueC 3 h (.slice da s.dues.length dc) s.dues:=hs.d
 have fm:=few.m
 have fo:=few.o
 have fd:=few.d
 unfold poolsB at hk
 refine x_enter Tryz.func61 rfl (rs:=[_]) rfl rfl mixed (by kernel_rfl) rfl rfl ?_
 refine xx ?_
 refine xnew fun b1 n_b1 h_b1=>?_
 try simp only [Apart] at n_b1
 refine xx ?_
 by_cases c0:s.pool.length≤256
 ·rw [decide_eq_true c0,Bool.true_and] at hk
  refine xx ?_
  refine xloop (0:Nat) (fun k=>k≤s.pool.length∧∀ j,j<k→dep1B s (gr zeroDep s.pool j)=true) (fun k=>[(20,.int .i64 k),(19,.int .i64 s.pool.length),(18,.slice oa s.pool.length oc),(1,.pointer (some ⟨b1,0,none⟩))]) (fun _=>⟨b1,134,stC s ⟨.slice pa s.purses.length pc,.slice ma s.members.length mc,.slice ea s.entry.length ec,.slice xa s.exit.length xc,.slice oa s.pool.length oc,.slice da s.dues.length dc,.slice ta s.motions.length tc,.slice ka s.marks.length kc,.slice ra s.ring.length rc⟩,41⟩::L) (fun _=>h) (fun k=>s.pool.length-k) ?_ ?_ ?_ ?_
  ·exact ⟨Nat.zero_le _,fun j hj=>by omega⟩
  ·simp [Ent,List.lookup,xEnv]
  ·exact Drop.refl _ _
  rintro k ⟨k1,k2⟩
  by_cases c1:k<s.pool.length
  ·have hxo:=hs.oo (gr zeroDep s.pool k) (by rw [gr_lt c1]; exact List.getElem_mem c1)
   simp -dsimp -implicitDefEqProofs (disch:=first|with_reducible assumption|omega) [go_sem,↓idxR zeroDep (by decide) ho,depC]
   refine xnew fun b2 n_b2 h_b2=>?_
   try simp only [Apart] at n_b2
   simp -dsimp -implicitDefEqProofs (disch:=first|with_reducible assumption|omega) [go_sem,depC]
   refine padd_any (gr zeroDep s.pool k) hxo fun a' n' c'=>?_
   cases q1:depB (gr zeroDep s.pool k) with
   | false =>
    rw [not_all_gr zeroDep _ _ c1 (by simp only [dep1B,q1,Bool.false_and])] at hk
    refine xx ?_
    exact fin_tail (fin_tail (fin_here (by simpa using hk)))
   | true =>
   refine xx ?_
   refine account_any _ hs few _ ?_
   cases q2:acctB s (gr zeroDep s.pool k).acct with
   | false =>
    rw [not_all_gr zeroDep _ _ c1 (by simp only [dep1B,q2,Bool.and_false,Bool.false_and])] at hk
    refine xx ?_
    exact fin_tail (fin_tail (fin_here (by simpa using hk)))
   | true =>
   have next:dep1B s (gr zeroDep s.pool k)=true→∀ j,j<k+1→dep1B s (gr zeroDep s.pool j)=true:=fun hq j hj=>by
    by_cases e:j=k
    ·subst e; exact hq
    ·exact k2 j (by omega)
   cases q3:(gr zeroDep s.pool k).new with
   | true =>
    refine xx ?_
    exact ⟨k+1,⟨by omega,next (by simp only [dep1B,q1,q2,q3,Bool.true_and,Bool.true_or])⟩,by omega,by simp [Ent,List.lookup],Drop.tail _ _ _⟩
   | false =>
    refine xx ?_
    refine swi_any _ _ _ ?_
    cases q4:wi (gr zeroDep s.pool k).mem 0 ((s.members.length:Int)-1) with
    | false =>
     rw [not_all_gr zeroDep _ _ c1 (by simp only [dep1B,q3,q4,Bool.or_self,Bool.and_false])] at hk
     refine xx ?_
     exact fin_tail (fin_tail (fin_here (by simpa using hk)))
    | true =>
     refine xx ?_
     exact ⟨k+1,⟨by omega,next (by simp only [dep1B,q1,q2,q3,q4,Bool.true_and,Bool.false_or])⟩,by omega,by simp [Ent,List.lookup],Drop.tail _ _ _⟩
  ·have hkl:k=s.pool.length:=by omega
   subst hkl
   rw [all_gr zeroDep _ _ k2,Bool.true_and] at hk
   refine xx ?_
   refine xnewmap fun bm n_bm h_bm=>?_
   try simp only [Apart] at n_bm
   refine xx ?_
   refine xloop (0:Nat) (fun k=>k≤s.dues.length∧∀ j,j<k→dueB s j=true) (fun k=>[(60,.int .i64 k),(59,.int .i64 s.dues.length),(58,.slice da s.dues.length dc),(7,.map (some bm)),(1,.pointer (some ⟨b1,0,none⟩))]) (fun k=>⟨bm,4294967295,entK [.i64,.i64,.u64] (esD s.dues k),0⟩::⟨b1,134,stC s ⟨.slice pa s.purses.length pc,.slice ma s.members.length mc,.slice ea s.entry.length ec,.slice xa s.exit.length xc,.slice oa s.pool.length oc,.slice da s.dues.length dc,.slice ta s.motions.length tc,.slice ka s.marks.length kc,.slice ra s.ring.length rc⟩,41⟩::L) (fun _=>h) (fun k=>s.dues.length-k) ?_ ?_ ?_ ?_
   ·exact ⟨Nat.zero_le _,fun j hj=>by omega⟩
   ·simp [Ent,List.lookup,xEnv]
   ·exact Drop.refl _ _
   rintro k ⟨k1,k2⟩
   by_cases c1:k<s.dues.length
   ·have hxo:=hs.dd (gr zeroDue s.dues k) (by rw [gr_lt c1]; exact List.getElem_mem c1)
    have ua:=hxo.a
    simp -dsimp -implicitDefEqProofs (disch:=first|with_reducible assumption|omega) [go_sem,↓idxR zeroDue (by decide) hd,dueC]
    refine xnew fun b9 n_b9 h_b9=>?_
    try simp only [Apart] at n_b9
    simp -dsimp -implicitDefEqProofs (disch:=first|with_reducible assumption|omega) [go_sem,dueC]
    refine xnew fun b10 n_b10 h_b10=>?_
    try simp only [Apart] at n_b10
    simp -dsimp -implicitDefEqProofs (disch:=first|with_reducible assumption|omega) [go_sem,dueC]
    refine xdraw (by kernel_rfl) rfl ?_
    refine xx ?_
    have key:dueB s k=true→∀ j,j<k+1→dueB s j=true:=fun hq j hj=>by
     by_cases e:j=k
     ·subst e; exact hq
     ·exact k2 j (by omega)
    refine xdcall _ (account_any _ hs few _ ⟨rfl,rfl,rfl⟩) ?_
    cases q1:acctB s (gr zeroDue s.dues k).acct with
    | false =>
     rw [not_duesB c1 (by simp only [dueB,due1B,q1,Bool.and_false,Bool.false_and,Bool.not_true])] at hk
     refine xx ?_
     exact fin_tail (fin_tail (fin_tail (fin_tail (fin_here hk))))
    | true =>
    refine xx ?_
    refine xdcall _ (swi_any _ _ _ ⟨rfl,rfl,rfl⟩) ?_
    cases q2:wi (gr zeroDue s.dues k).at' 0 2147483647 with
    | false =>
     rw [not_duesB c1 (by simp only [dueB,due1B,q2,Bool.and_false,Bool.false_and,Bool.not_true])] at hk
     refine xx ?_
     exact fin_tail (fin_tail (fin_tail (fin_tail (fin_here hk))))
    | true =>
    by_cases q3:1≤(gr zeroDue s.dues k).amt
    ·by_cases q4:(gr zeroDue s.dues k).amt≤4611686018427387904
     ·refine xx ?_
      refine xlookup_k (n:=keyD (gr zeroDue s.dues k)) dueMap dueKey zeroBool rfl (esD s.dues k) (esD_len _ _) (List.mem_cons_of_mem _ (List.mem_cons_of_mem _ List.mem_cons_self)) ?_
      rw [met_val c1]
      simp only [Bool.false_eq_true,if_false]
      cases q5:metB s.dues k with
      | true =>
       rw [not_duesB c1 (by simp only [dueB,due1B,q5,Bool.and_false,Bool.false_and,Bool.not_true])] at hk
       refine xx ?_
       exact fin_tail (fin_tail (fin_tail (fin_tail (fin_here hk))))
      | false =>
      by_cases c2:k=0
      ·have q6:ordB s.dues k=true:=by simp [ordB,c2]
       have c3:¬ (0<(k:Int)):=by omega
       refine xx ?_
       refine xupdate_k (n:=keyD (gr zeroDue s.dues k)) dueMap dueKey rfl [_,_] _ (esD s.dues k) (esD_len _ _) ((met_get c1).1 q5) ?_
       rw [← esD_succ c1]
       refine xx ?_
       exact ⟨k+1,⟨by omega,key (by simp only [dueB,due1B,q1,q2,q5,q6,decide_eq_true q3,decide_eq_true q4,Bool.and_self,Bool.not_false])⟩,by omega,by simp [Ent,List.lookup],Drop.trans (Drop.tail _ _ _) (Drop.tail _ _ _)⟩
      ·have e1:((k:Int)-1).toNat=k-1:=by omega
       by_cases c4:(gr zeroDue s.dues (k-1)).at'≤(gr zeroDue s.dues k).at'
       ·have q6:ordB s.dues k=true:=by simp [ordB,c4]
        simp -dsimp -implicitDefEqProofs (disch:=first|with_reducible assumption|omega) [go_sem,↓idxR zeroDue (by decide) hd,e1]
        refine (Recs.fld zeroDue hd (j:=k-1) (o:=1) (by omega) (u:=.int .i64 (gr zeroDue s.dues (k-1)).at') rfl _ _ _).mpr ?_
        refine xx ?_
        refine xupdate_k (n:=keyD (gr zeroDue s.dues k)) dueMap dueKey rfl [_,_] _ (esD s.dues k) (esD_len _ _) ((met_get c1).1 q5) ?_
        rw [← esD_succ c1]
        refine xx ?_
        exact ⟨k+1,⟨by omega,key (by simp only [dueB,due1B,q1,q2,q5,q6,decide_eq_true q3,decide_eq_true q4,Bool.and_self,Bool.not_false])⟩,by omega,by simp [Ent,List.lookup],Drop.trans (Drop.tail _ _ _) (Drop.tail _ _ _)⟩
       ·have q6:ordB s.dues k=false:=by simp [ordB,c2,c4]
        simp -dsimp -implicitDefEqProofs (disch:=first|with_reducible assumption|omega) [go_sem,↓idxR zeroDue (by decide) hd,e1]
        refine (Recs.fld zeroDue hd (j:=k-1) (o:=1) (by omega) (u:=.int .i64 (gr zeroDue s.dues (k-1)).at') rfl _ _ _).mpr ?_
        rw [not_duesB c1 (by simp only [dueB,due1B,q6,Bool.and_false,Bool.false_and,Bool.not_true])] at hk
        refine xx ?_
        exact fin_tail (fin_tail (fin_tail (fin_tail (fin_here hk))))
     ·have q4':=decide_eq_false q4
      rw [not_duesB c1 (by simp only [dueB,due1B,q4',Bool.and_false,Bool.false_and,Bool.not_true])] at hk
      refine xx ?_
      exact fin_tail (fin_tail (fin_tail (fin_tail (fin_here hk))))
    ·have q3':=decide_eq_false q3
     rw [not_duesB c1 (by simp only [dueB,due1B,q3',Bool.and_false,Bool.false_and,Bool.not_true])] at hk
     refine xx ?_
     exact fin_tail (fin_tail (fin_tail (fin_tail (fin_here hk))))
   ·have hkl:k=s.dues.length:=by omega
    subst hkl
    have hq:duesB s=true:=by
     rw [duesB,List.all_eq_true]
     exact fun j hj=>k2 j (List.mem_range.1 hj)
    rw [hq] at hk
    refine xx ?_
    exact fin_tail (fin_tail (fin_here hk))
 ·rw [decide_eq_false c0] at hk
  refine xx ?_
  exact fin_tail (fin_here (by simpa using hk))
def fitsS (s:StD):Bool:=parR s.par&&wi s.ep 0 1073741824&&wi s.calm 0 1073741824&&pursesB s&&membersB s&&poolsB s&&motionsB s&&marksB s&&holdsB s
theorem fits_any {s:StD} (v:SV) (hs:IsSt h v s) (few:FewS s) (hk:K (.bool (fitsS s)) L h):Spec Tryz.prog 16 [stV s v] L h K:=by
 obtain ⟨pa,pc,ma,mc,ea,ec,xa,xc,oa,oc,da,dc,ta,tc,ka,kc,ra,rc,rfl⟩:=hs.slices
 refine x_enter Tryz.func16 rfl (rs:=[_]) rfl rfl mixed (by kernel_rfl) rfl rfl ?_
 refine xx ?_
 refine xnew fun b1 n_b1 h_b1=>?_
 try simp only [Apart] at n_b1
 refine xx ?_
 refine xnew fun b2 n_b2 h_b2=>?_
 try simp only [Apart] at n_b2
 refine xx ?_
 refine pcheck0 s.par hs.ok.p ?_
 cases q1:parR s.par with
 | false =>
  simp only [fitsS,q1,Bool.false_and] at hk
  refine xx ?_
  exact fin_tail (fin_tail (fin_here hk))
 | true =>
 refine xx ?_
 refine swi_any _ _ _ ?_
 cases q2:wi s.ep 0 1073741824 with
 | false =>
  simp only [fitsS,q2,Bool.and_false,Bool.false_and] at hk
  refine xx ?_
  exact fin_tail (fin_tail (fin_here hk))
 | true =>
 refine xx ?_
 refine swi_any _ _ _ ?_
 cases q3:wi s.calm 0 1073741824 with
 | false =>
  simp only [fitsS,q3,Bool.and_false,Bool.false_and] at hk
  refine xx ?_
  exact fin_tail (fin_tail (fin_here hk))
 | true =>
 refine xx ?_
 refine purses_any (s:=s) ⟨.slice pa s.purses.length pc,.slice ma s.members.length mc,.slice ea s.entry.length ec,.slice xa s.exit.length xc,.slice oa s.pool.length oc,.slice da s.dues.length dc,.slice ta s.motions.length tc,.slice ka s.marks.length kc,.slice ra s.ring.length rc⟩ hs few ?_
 cases q4:pursesB s with
 | false =>
  simp only [fitsS,q4,Bool.and_false,Bool.false_and] at hk
  refine xx ?_
  exact fin_tail (fin_tail (fin_here hk))
 | true =>
 refine xx ?_
 refine members_any (s:=s) ⟨.slice pa s.purses.length pc,.slice ma s.members.length mc,.slice ea s.entry.length ec,.slice xa s.exit.length xc,.slice oa s.pool.length oc,.slice da s.dues.length dc,.slice ta s.motions.length tc,.slice ka s.marks.length kc,.slice ra s.ring.length rc⟩ hs few q1 ?_
 cases q5:membersB s with
 | false =>
  simp only [fitsS,q5,Bool.and_false,Bool.false_and] at hk
  refine xx ?_
  exact fin_tail (fin_tail (fin_here hk))
 | true =>
 refine xx ?_
 refine pools_any (s:=s) ⟨.slice pa s.purses.length pc,.slice ma s.members.length mc,.slice ea s.entry.length ec,.slice xa s.exit.length xc,.slice oa s.pool.length oc,.slice da s.dues.length dc,.slice ta s.motions.length tc,.slice ka s.marks.length kc,.slice ra s.ring.length rc⟩ hs few ?_
 cases q6:poolsB s with
 | false =>
  simp only [fitsS,q6,Bool.and_false,Bool.false_and] at hk
  refine xx ?_
  exact fin_tail (fin_tail (fin_here hk))
 | true =>
 refine xx ?_
 refine motions_any (s:=s) ⟨.slice pa s.purses.length pc,.slice ma s.members.length mc,.slice ea s.entry.length ec,.slice xa s.exit.length xc,.slice oa s.pool.length oc,.slice da s.dues.length dc,.slice ta s.motions.length tc,.slice ka s.marks.length kc,.slice ra s.ring.length rc⟩ hs few ?_
 cases q7:motionsB s with
 | false =>
  simp only [fitsS,q7,Bool.and_false,Bool.false_and] at hk
  refine xx ?_
  exact fin_tail (fin_tail (fin_here hk))
 | true =>
 refine xx ?_
 refine marks_any (s:=s) ⟨.slice pa s.purses.length pc,.slice ma s.members.length mc,.slice ea s.entry.length ec,.slice xa s.exit.length xc,.slice oa s.pool.length oc,.slice da s.dues.length dc,.slice ta s.motions.length tc,.slice ka s.marks.length kc,.slice ra s.ring.length rc⟩ hs few ?_
 cases q8:marksB s with
 | false =>
  simp only [fitsS,q8,Bool.and_false,Bool.false_and] at hk
  refine xx ?_
  exact fin_tail (fin_tail (fin_here hk))
 | true =>
 simp only [fitsS,q1,q2,q3,q4,q5,q6,q7,q8,Bool.and_self,Bool.true_and] at hk
 refine xx ?_
 refine holds_any (s:=s) ⟨.slice pa s.purses.length pc,.slice ma s.members.length mc,.slice ea s.entry.length ec,.slice xa s.exit.length xc,.slice oa s.pool.length oc,.slice da s.dues.length dc,.slice ta s.motions.length tc,.slice ka s.marks.length kc,.slice ra s.ring.length rc⟩ hs few ?_
 refine xx ?_
 exact fin_tail (fin_tail (fin_here hk))
theorem counts_any (m:MemD) (hk:K (.bool (decide (m.status=2∨m.status=3))) L h):Spec Tryz.prog 244 [memV m] L h K:=by
 refine x_enter Tryz.func244 rfl (rs:=[_]) rfl rfl mixed (by kernel_rfl) rfl rfl ?_
 refine xx ?_
 refine xnew fun b1 n_b1 h_b1=>?_
 try simp only [Apart] at n_b1
 refine xx ?_
 by_cases c:m.status=2
 ·refine xx ?_
  exact fin_tail (fin_here (by simpa [c] using hk))
 ·refine xx ?_
  exact fin_tail (fin_here (by simpa [c] using hk))
def few9 (s:StD):Bool:=decide (s.purses.length≤100)&&decide (s.members.length≤200)&&decide (s.entry.length≤300)&&decide (s.exit.length≤300)&&decide (s.pool.length≤300)&&decide (s.dues.length≤200)&&decide (s.motions.length≤40)&&decide (s.ring.length≤20)&&decide (s.marks.length≤50)
def fewB (s:StD):Bool:=few9 s&&s.ring.all (fun b=>decide (b.length≤50))&&s.motions.all (fun m=>decide (m.yes.length≤50)&&decide (m.no.length≤50))
theorem few9_len {s:StD} (hf:few9 s=true):s.purses.length≤100∧s.members.length≤200∧s.entry.length≤300∧s.exit.length≤300∧s.pool.length≤300∧s.dues.length≤200∧s.motions.length≤40∧s.ring.length≤20∧s.marks.length≤50:=by
 simp only [few9,Bool.and_eq_true,decide_eq_true_eq] at hf
 omega
theorem fewB_9 {s:StD} (hf:fewB s=true):few9 s=true:=by
 simp only [fewB,Bool.and_eq_true] at hf
 exact hf.1.1
theorem few24_any {s:StD} (v:SV) (hs:IsSt h v s) (hk:K (.bool (fewB s)) L h):Spec Tryz.prog 17 [stV s v] L h K:=by
 obtain ⟨pa,pc,ma,mc,ea,ec,xa,xc,oa,oc,da,dc,ta,tc,ka,kc,ra,rc,rfl⟩:=hs.slices
 have no:fewB s=false→K (.bool false) L h:=fun e=>by rwa [e] at hk
 refine x_enter Tryz.func17 rfl (rs:=[_]) rfl rfl mixed (by kernel_rfl) rfl rfl ?_
 refine xx ?_
 refine xnew fun b1 n_b1 h_b1=>?_
 try simp only [Apart] at n_b1
 refine xx ?_
 by_cases c1:100<s.purses.length
 ·have:=no (by simp only [fewB,few9,decide_eq_false (p:=s.purses.length≤100) (by omega),Bool.false_and,Bool.and_false])
  refine xx ?_
  exact fin_tail (fin_here this)
 by_cases c2:200<s.members.length
 ·have:=no (by simp only [fewB,few9,decide_eq_false (p:=s.members.length≤200) (by omega),Bool.false_and,Bool.and_false])
  refine xx ?_
  exact fin_tail (fin_here this)
 by_cases c3:300<s.entry.length
 ·have:=no (by simp only [fewB,few9,decide_eq_false (p:=s.entry.length≤300) (by omega),Bool.false_and,Bool.and_false])
  refine xx ?_
  exact fin_tail (fin_here this)
 by_cases c4:300<s.exit.length
 ·have:=no (by simp only [fewB,few9,decide_eq_false (p:=s.exit.length≤300) (by omega),Bool.false_and,Bool.and_false])
  refine xx ?_
  exact fin_tail (fin_here this)
 by_cases c5:300<s.pool.length
 ·have:=no (by simp only [fewB,few9,decide_eq_false (p:=s.pool.length≤300) (by omega),Bool.false_and,Bool.and_false])
  refine xx ?_
  exact fin_tail (fin_here this)
 by_cases c6:200<s.dues.length
 ·have:=no (by simp only [fewB,few9,decide_eq_false (p:=s.dues.length≤200) (by omega),Bool.false_and,Bool.and_false])
  refine xx ?_
  exact fin_tail (fin_here this)
 by_cases c7:40<s.motions.length
 ·have:=no (by simp only [fewB,few9,decide_eq_false (p:=s.motions.length≤40) (by omega),Bool.false_and,Bool.and_false])
  refine xx ?_
  exact fin_tail (fin_here this)
 by_cases c8:20<s.ring.length
 ·have:=no (by simp only [fewB,few9,decide_eq_false (p:=s.ring.length≤20) (by omega),Bool.false_and,Bool.and_false])
  refine xx ?_
  exact fin_tail (fin_here this)
 by_cases c9:50<s.marks.length
 ·have:=no (by simp only [fewB,few9,decide_eq_false (p:=s.marks.length≤50) (by omega),Bool.false_and,Bool.and_false])
  refine xx ?_
  exact fin_tail (fin_here this)
 have f9:few9 s=true:=by
  simp only [few9,Bool.and_eq_true,decide_eq_true_eq]
  omega
 obtain ⟨qr,hdr,tr⟩:=hs.r
 have hqr:qr.length=s.ring.length:=by rw [← tr,xsL_len]
 simp only at hdr
 obtain ⟨_,_,hre,_,_,_,hcr,hdd⟩:=hdr.open
 injection hre with hre1 hre2 hre3
 subst hre1
 subst hre3
 have hcr':∀ j,j<s.ring.length→elemCell h ra j=some ((fun j=>(gs qr j).1) j):=fun j hj=>hcr j (by omega)
 have hgs:∀ j,j<qr.length→gr [] s.ring j=(gs qr j).2:=fun j hj=>by
  rw [← tr,gr_lt (by rw [xsL_len]; exact hj),gs_lt hj]; simp [xsL]
 refine xx ?_
 refine xloop (0:Nat) (fun k=>k≤s.ring.length∧∀ j,j<k→(fun b:List Int=>decide (b.length≤50)) (gr [] s.ring j)=true) (fun k=>[(62,.int .i64 k),(61,.int .i64 s.ring.length),(60,.slice ra s.ring.length rc),(1,.pointer (some ⟨b1,0,none⟩))]) (fun _=>⟨b1,39,stC s ⟨.slice pa s.purses.length pc,.slice ma s.members.length mc,.slice ea s.entry.length ec,.slice xa s.exit.length xc,.slice oa s.pool.length oc,.slice da s.dues.length dc,.slice ta s.motions.length tc,.slice ka s.marks.length kc,.slice ra s.ring.length rc⟩,41⟩::L) (fun _=>h) (fun k=>s.ring.length-k) ?_ ?_ ?_ ?_
 ·exact ⟨Nat.zero_le _,fun j hj=>by omega⟩
 ·simp [Ent,List.lookup,xEnv]
 ·exact Drop.refl _ _
 rintro k ⟨k1,k2⟩
 by_cases d1:k<s.ring.length
 ·have hi:=hdd.at (i:=k) (by omega)
  obtain ⟨x1,y1,hv1,_⟩:=hi.open
  have hg:=hgs k (by omega)
  simp -dsimp -implicitDefEqProofs (disch:=first|with_reducible assumption|omega) [go_sem,idx hcr',hv1]
  by_cases d2:50<(gs qr k).2.length
  ·have:=no (by simp only [fewB,not_all_gr [] (fun b:List Int=>decide (b.length≤50)) s.ring d1 (by rw [hg]; exact decide_eq_false (by omega)),Bool.false_and,Bool.and_false])
   refine xx ?_
   exact fin_tail (fin_here this)
  ·refine xx ?_
   refine ⟨k+1,⟨by omega,fun j hj=>?_⟩,by omega,by simp [Ent,List.lookup],Drop.refl _ _⟩
   by_cases e:j=k
   ·subst e; rw [hg]; first | omega | exact decide_eq_true (by omega)
   ·first | exact k2 j (by omega) | simpa using k2 j (by omega)
 have hkl:k=s.ring.length:=by omega
 subst hkl
 have rall:=all_gr [] (fun b:List Int=>decide (b.length≤50)) s.ring k2
 clear k2 d1 k1
 obtain ⟨q,hd,t2,t3⟩:=hs.t
 have hql:q.length=s.motions.length:=by rw [← t2,List.length_map]
 have hgr:∀ k,k<q.length→gr zeroMot s.motions k=(gr zeroQM q k).2.2:=fun k hk=>by
  rw [gr_lt hk,gr_lt (by omega)]
  simp only [← t2,List.getElem_map]
 simp only at hd
 refine xx ?_
 refine xloop (0:Nat) (fun k=>k≤s.motions.length∧∀ j,j<k→(fun m:MotD=>decide (m.yes.length≤50)&&decide (m.no.length≤50)) (gr zeroMot s.motions j)=true) (fun k=>[(73,.int .i64 k),(72,.int .i64 s.motions.length),(71,.slice ta s.motions.length tc),(1,.pointer (some ⟨b1,0,none⟩))]) (fun _=>⟨b1,39,stC s ⟨.slice pa s.purses.length pc,.slice ma s.members.length mc,.slice ea s.entry.length ec,.slice xa s.exit.length xc,.slice oa s.pool.length oc,.slice da s.dues.length dc,.slice ta s.motions.length tc,.slice ka s.marks.length kc,.slice ra s.ring.length rc⟩,41⟩::L) (fun _=>h) (fun k=>s.motions.length-k) ?_ ?_ ?_ ?_
 ·exact ⟨Nat.zero_le _,fun j hj=>by omega⟩
 ·simp [Ent,List.lookup,xEnv]
 ·exact Drop.refl _ _
 rintro k ⟨k1,k2⟩
 by_cases d1:k<s.motions.length
 ·have hx:IsMot h (gr zeroQM q k):=by rw [gr_lt (by omega)]; exact t3 _ (List.getElem_mem (by omega))
  have hg:=hgr k (by omega)
  obtain ⟨x1,y1,hv1,_⟩:=hx.y.open
  obtain ⟨x2,y2,hv2,_⟩:=hx.n.open
  simp -dsimp -implicitDefEqProofs (disch:=first|with_reducible assumption|omega) [go_sem,↓idxR zeroQM (by decide) hd,motC]
  refine xnew fun b2 n_b2 h_b2=>?_
  try simp only [Apart] at n_b2
  simp -dsimp -implicitDefEqProofs (disch:=first|with_reducible assumption|omega) [go_sem,motC,hv1,hv2]
  by_cases d2:50<(gr zeroQM q k).2.2.yes.length
  ·have:=no (by simp only [fewB,not_all_gr zeroMot (fun m:MotD=>decide (m.yes.length≤50)&&decide (m.no.length≤50)) s.motions d1 (by rw [hg]; simp; omega),Bool.and_false])
   refine xx ?_
   exact fin_tail (fin_tail (fin_here this))
  by_cases d3:50<(gr zeroQM q k).2.2.no.length
  ·have:=no (by simp only [fewB,not_all_gr zeroMot (fun m:MotD=>decide (m.yes.length≤50)&&decide (m.no.length≤50)) s.motions d1 (by rw [hg]; simp; omega),Bool.and_false])
   refine xx ?_
   exact fin_tail (fin_tail (fin_here this))
  refine xx ?_
  refine ⟨k+1,⟨by omega,fun j hj=>?_⟩,by omega,by simp [Ent,List.lookup],Drop.tail _ _ _⟩
  by_cases e:j=k
  ·subst e; rw [hg]; first | omega | (simp; omega)
  ·first | exact k2 j (by omega) | simpa using k2 j (by omega)
 ·have hkl:k=s.motions.length:=by omega
  subst hkl
  have tall:=all_gr zeroMot (fun m:MotD=>decide (m.yes.length≤50)&&decide (m.no.length≤50)) s.motions k2
  have yes:fewB s=true:=by simp only [fewB,f9,rall,tall,Bool.and_self]
  rw [yes] at hk
  refine xx ?_
  exact fin_tail (fin_here hk)
theorem zeros_ints {h:PH} {v:Value} {n:Nat} (sl:Sl h v n 1 (List.replicate n (.int .u8 0))):Ints h .u8 v (List.replicate n 0) :=
 ⟨by simpa [List.map_replicate] using sl,fun z hz=>by rw [List.eq_of_mem_replicate hz]; decide⟩
end Go.X
