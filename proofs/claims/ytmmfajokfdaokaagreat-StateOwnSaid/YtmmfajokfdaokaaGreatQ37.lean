/- Lemmas and contracts for a statement about the given program. Conditions: as each says. -/
import Derived.Test.YtmmfajokfdaokaaGreatQ03
import Derived.Test.YtmmfajokfdaokaaGreatQ04
import Derived.Test.YtmmfajokfdaokaaGreatQ06
import Derived.Test.YtmmfajokfdaokaaGreatQ07
import Derived.Test.YtmmfajokfdaokaaGreatQ12
import Derived.Test.YtmmfajokfdaokaaGreatQ13
import Derived.Test.YtmmfajokfdaokaaGreatQ31
set_option linter.unusedVariables false
set_option linter.unusedSimpArgs false
set_option maxHeartbeats 12800000
set_option maxRecDepth 20000
namespace Go.X
open Go.RowKit Go.Proofs Go.Bl
structure MI (p:ParD) (m:MemD):Prop where
 b:0≤m.bal∧m.bal≤p.cap
 e:0≤m.eff∧m.eff≤1099511627776
 sc:0≤m.score∧m.score≤p.scoreCap
 st:0≤m.streak∧m.streak≤p.streak
 ow:0≤m.owner∧m.owner<64
 s:(m.status=2∨m.status=3)∨(m.status=1∧1≤m.bal∧m.eff=0)∨((m.status=4∨m.status=5)∧m.bal=0∧m.eff=0)
abbrev MF (p:ParD) (m:MemD):Prop:=cntM m→p.floor<m.bal
theorem setPm {P:MemD→Prop} {l:List MemD} (h:∀ x∈l,P x) {i:Nat} {m:MemD} (hf:i<l.length→P m):∀ x∈l.set i m,P x:=fun x hx=>by
 by_cases c:i<l.length
 ·rcases List.mem_or_eq_of_mem_set hx with hx | rfl
  ·exact h x hx
  ·exact hf c
 ·rw [List.set_eq_of_length_le (by omega)] at hx
  exact h x hx
theorem grP {P:MemD→Prop} {l:List MemD} (h:∀ x∈l,P x) {i:Nat} (hi:i<l.length):P (gr zeroM l i):=h _ (gr_mem hi)
theorem parR_all {p:ParD} (hr:parR p=true):stakesB p=true∧scoresB p=true:=by
 simp only [parR,Bool.and_eq_true] at hr
 exact ⟨hr.1.1.1,hr.1.1.2⟩
theorem mi_of {p:ParD} (hr:parR p=true) {m:MemD} (mo:MemOk m) (hm:mfitsB p m=true):MI p m∧MF p m:=by
 obtain ⟨h1,h2,h3,h4⟩:=mfits_facts hm
 obtain ⟨s1,s2⟩:=parR_all hr
 have f1:=stakesB_facts s1
 have f2:=scoresB_facts s2
 have f3:=parR_streak hr
 have u1:=mo.u m.bal (by simp)
 have u2:=mo.u m.eff (by simp)
 have u3:=mo.u m.score (by simp)
 have hc:=shape_cap hr h4
 unfold shapeB at h4
 by_cases c1:m.status=2∨m.status=3
 ·rw [if_pos c1] at h4
  simp only [Bool.and_eq_true,decide_eq_true_eq,gfitsP] at h4
  exact ⟨⟨⟨u1.1,hc⟩,by omega,by omega,by omega,h1,.inl c1⟩,fun _=>by omega⟩
 ·rw [if_neg c1] at h4
  refine ⟨?_,fun c=>absurd c c1⟩
  by_cases c2:m.status=1
  ·rw [if_pos c2] at h4
   simp only [Bool.and_eq_true,decide_eq_true_eq] at h4
   exact ⟨⟨u1.1,hc⟩,by omega,by omega,by omega,h1,.inr (.inl ⟨c2,h4.1.1,h4.2⟩)⟩
  ·rw [if_neg c2] at h4
   by_cases c3:m.status=4∨m.status=5
   ·rw [if_pos c3] at h4
    simp only [Bool.and_eq_true,decide_eq_true_eq] at h4
    exact ⟨⟨u1.1,hc⟩,by omega,by omega,by omega,h1,.inr (.inr ⟨c3,h4.1,h4.2⟩)⟩
   ·rw [if_neg c3] at h4; cases h4
theorem wg_mi {p:ParD} (hr:parR p=true) (ok:ParOk p) (ks:List Int) (mode:Int) (k:Nat) {m:MemD} (h:MI p m):MI p (wgF p ks mode k m):=by
 obtain ⟨s1,s2⟩:=parR_all hr
 have f2:=scoresB_facts s2
 have f3:=parR_streak hr
 have h1:=h.sc
 have h2:=h.st
 have o1:=ok.w p.recover (by simp [wides])
 unfold wgF
 split
 ·unfold afterM
  split
  ·refine ⟨h.b,h.e,?_,?_,h.ow,h.s⟩
   ·show 0≤fallP m.score p.recover∧fallP m.score p.recover≤_
    unfold fallP
    split<;>omega
   ·show 0≤(if max m.streak 0<p.streak then max m.streak 0+1 else p.streak)∧(if max m.streak 0<p.streak then max m.streak 0+1 else p.streak)≤p.streak
    by_cases c:max m.streak 0<p.streak
    ·rw [if_pos c]; omega
    ·rw [if_neg c]; omega
  ·refine ⟨h.b,h.e,?_,?_,h.ow,h.s⟩
   ·show 0≤(if mode=3 then riseP m.score p.bias p.scoreCap else if mode=4 then riseP m.score p.biasEm p.scoreCap else m.score)∧(if mode=3 then riseP m.score p.bias p.scoreCap else if mode=4 then riseP m.score p.biasEm p.scoreCap else m.score)≤p.scoreCap
    unfold riseP
    by_cases c:mode=3
    ·rw [if_pos c]; omega
    ·rw [if_neg c]
     by_cases c2:mode=4
     ·rw [if_pos c2]; omega
     ·rw [if_neg c2]; omega
   ·show (0:Int)≤0∧(0:Int)≤p.streak
    omega
 ·exact h
theorem pay_mi {p:ParD} {m:MemD} (h:MI p m) {n:Int} (hn:0≤n) (hc:cntM m):MI p (payM p m n).1:=by
 have h1:=h.b
 refine ⟨?_,h.e,h.sc,h.st,h.ow,.inl hc⟩
 show 0≤m.bal+min n (fallP p.cap m.bal)∧m.bal+min n (fallP p.cap m.bal)≤p.cap
 unfold fallP
 split<;>omega
theorem fine_mi {p:ParD} (ok:ParOk p) (hr:parR p=true) (ks:List Int) (mode:Int) (k:Nat) {m:MemD} (mo:MemOk m) (h:MI p m):MI p (fnF p ks mode k m):=by
 have h1:=h.b
 have h2:=fine_b ok hr mo mode
 unfold fnF
 split
 ·rename_i c
  refine ⟨?_,h.e,h.sc,h.st,h.ow,.inl c.1⟩
  show 0≤m.bal-fineP p m mode∧m.bal-fineP p m mode≤p.cap
  omega
 ·exact h
theorem ended_mi {p:ParD} {m:MemD} (hr:parR p=true) (h:MI p m) {st:Int} (hs:st=4∨st=5):MI p (endR m st)∧MF p (endR m st):=by
 have h1:=h.b
 have h2:=h.st
 refine ⟨⟨?_,by simp [endR],h.sc,?_,h.ow,.inr (.inr ⟨hs,rfl,rfl⟩)⟩,fun c=>?_⟩
 ·show (0:Int)≤0∧(0:Int)≤p.cap
  omega
 ·show (0:Int)≤0∧(0:Int)≤p.streak
  omega
 ·simp only [cntM,endR] at c
  omega
theorem ej_mi {p:ParD} (hr:parR p=true) {m:MemD} (h:MI p m):MI p (ejF p m)∧MF p (ejF p m):=by
 unfold ejF
 split
 ·exact ended_mi hr h (st:=4) (.inl rfl)
 ·rename_i c
  exact ⟨h,fun hc=>by
   have:¬ m.bal≤p.floor:=fun x=>c ⟨hc,x⟩
   omega⟩
theorem cred_mi {p:ParD} (hr:parR p=true) {m:MemD} (h:MI p m) (hf:MF p m) {a:Int} (ha:0≤a):MI p (credM p m a)∧MF p (credM p m a):=by
 have h1:=h.b
 have h2:=h.s
 have ht:0≤crTake p m a∧m.bal+crTake p m a≤p.cap:=by
  unfold crTake fallP
  split<;>omega
 unfold credM
 split
 ·rename_i c
  exact ⟨⟨by simp only; omega,by simp,h.sc,h.st,h.ow,.inr (.inl ⟨rfl,by simp only; omega,rfl⟩)⟩,fun x=>by simp [cntM] at x⟩
 ·rename_i c
  refine ⟨⟨by simp only; omega,h.e,h.sc,h.st,h.ow,?_⟩,fun x=>?_⟩
  ·rcases h2 with h2 | h2 | h2
   ·exact .inl h2
   ·exact .inr (.inl ⟨h2.1,by simp only; omega,h2.2.2⟩)
   ·refine .inr (.inr ⟨h2.1,?_,h2.2.2⟩)
    simp only
    by_cases z:0<m.bal+crTake p m a
    ·exact absurd ⟨z,h2.1⟩ c
    ·omega
  ·have:=hf x
   simp only
   omega
theorem start_mi {p:ParD} (hr:parR p=true) {m:MemD} (h:MI p m) (hf:MF p m):MI p (startM p m).1∧MF p (startM p m).1:=by
 obtain ⟨s1,s2⟩:=parR_all hr
 have f1:=stakesB_facts s1
 have f3:=parR_streak hr
 have h1:=h.b
 unfold startM
 split
 ·rename_i c
  have g:=whole_facts hr c.2.1
  simp only [gfitsP,Bool.and_eq_true,decide_eq_true_eq] at g
  refine ⟨⟨h.b,?_,h.sc,?_,h.ow,.inl (.inl rfl)⟩,fun _=>c.2.1⟩
  ·show 0≤wholeP p m.bal∧wholeP p m.bal≤_
   omega
  ·show (0:Int)≤0∧(0:Int)≤p.streak
   omega
 ·exact ⟨h,hf⟩
theorem tot_leL {B:Int}:∀ (xs:List Int),(∀ x∈xs,x≤B)→tot xs≤xs.length*B
 | [],_=>by simp [tot,sumK]
 | x::xs,hx=>by
  have ih:=tot_leL xs fun y hy=>hx y (List.mem_cons_of_mem _ hy)
  have h1:=hx x List.mem_cons_self
  rw [tot_cons',List.length_cons]
  have:(((xs.length+1:Nat)):Int)*B=xs.length*B+B:=by
   rw [Int.natCast_add,Int.add_mul]; simp
  omega
theorem act_le {p:ParD} {l:List MemD} (hl:l.length≤128) (h:∀ m∈l,MI p m):actL l≤140737488355328:=by
 have h1:=tot_leL (B:=1099511627776) ((cP l l.length).map (effI l)) fun x hx=>by
  obtain ⟨i,hi,rfl⟩:=List.mem_map.1 hx
  have:=cP_lt hi
  exact (h _ (gr_mem this)).e.2
 rw [List.length_map] at h1
 have h2:=cP_len l l.length
 unfold actL
 omega
theorem ms_of {h:PH} {v:SV} {s:StD} (hs:IsSt h v s) (hf:fitsS s=true):∀ m∈s.members,MI s.par m∧MF s.par m:=fun m hm=>by
 have hr:parR s.par=true:=(fitsT_iff.1 hf).1
 exact mi_of hr (hs.mo m hm) (fits_mem hf m hm).1
theorem wg_ms {s:StD} {D:Nat} (ti:TkI s D) (h:∀ m∈s.members,MI s.par m):∀ m∈(wgS s).members,MI s.par m :=
 upI_ok (MI s.par) (fun k _ hm=>wg_mi ti.r ti.ok.p _ _ k hm) h _ (Nat.le_refl _)
theorem mt_ms {s:StD} {D:Nat} (ti:TkI s D) {r:RepD} (ha:0≤r.act∧r.act≤18446744073709551615) (h:∀ m∈s.members,MI s.par m):∀ k,k≤(mtW s).length→∀ m∈(mtX s r k).1,MI s.par m
 | 0,_=>h
 | k+1,hk=>by
  have ih:=mt_ms ti ha h k (by omega)
  have hx:=mt_k ti ha (k:=k) (by omega)
  have hW:(mtW s).getD k 0∈mtW s:=by
   rw [List.getD_eq_getElem?_getD,List.getElem?_eq_getElem (by omega),Option.getD_some]
   exact List.getElem_mem _
  have hc:=(thI_cnt hW).1
  show ∀ m∈((mtX s r k).1.set ((mtW s).getD k 0) (payM s.par (gr zeroM (mtX s r k).1 ((mtW s).getD k 0)) (at0 (mtP s r) k)).1),MI s.par m
  refine setPm ih fun hi=>pay_mi (grP ih hi) ((mt_p ti ha).1 k).1 ?_
  show _∨_
  rw [(hx.s _).1]
  exact hc
theorem fn_ms {s:StD} {D:Nat} (ti:TkI s D) (r:RepD) (h:∀ m∈s.members,MI s.par m):∀ m∈(fnS s r).members,MI s.par m:=fun m hm =>
 (upI_ok (fun m=>MemOk m∧MI s.par m) (fun k _ hm=>⟨fnF_ok ti.ok.p ti.r _ _ k hm.1,fine_mi ti.ok.p ti.r _ _ k hm.1 hm.2⟩) (fun m hm=>⟨ti.be.m m hm,h m hm⟩) _ (Nat.le_refl _) m hm).2
theorem ej_ms {s:StD} (hr:parR s.par=true) (t:Int) (h:∀ m∈s.members,MI s.par m):∀ m∈(ejS s t s.members.length).members,MI s.par m∧MF s.par m:=fun m hm=>by
 have e:(ejS s t s.members.length).members=s.members.map (ejF s.par):=upN_all _ _
 rw [e] at hm
 obtain ⟨x,hx,rfl⟩:=List.mem_map.1 hm
 exact ej_mi hr (h x hx)
theorem lv_ms {s:StD} (hr:parR s.par=true) (t:Int) (W:List Int) {ds:List DueD} (h:∀ m∈s.members,MI s.par m∧MF s.par m):∀ k,∀ m∈(lvK t W (s.members,ds) k).1,MI s.par m∧MF s.par m
 | 0=>h
 | k+1=>by
  have ih:=lv_ms hr t W (ds:=ds) h k
  show ∀ m∈((lvK t W (s.members,ds) k).1.set (at0 W k).toNat (endR (gr zeroM (lvK t W (s.members,ds) k).1 (at0 W k).toNat) 5)),_
  exact setPm (P:=fun m=>MI s.par m∧MF s.par m) ih fun hi=>ended_mi hr (grP (P:=fun m=>MI s.par m∧MF s.par m) ih hi).1 (.inr rfl)
theorem new_mi {p:ParD} (hr:parR p=true) {a:Int} (ha:0≤a∧a<64):MI p ⟨0,0,0,0,a,4⟩∧MF p ⟨0,0,0,0,a,4⟩:=by
 obtain ⟨s1,s2⟩:=parR_all hr
 have f1:=stakesB_facts s1
 have f2:=scoresB_facts s2
 have f3:=parR_streak hr
 exact ⟨⟨by simp only; omega,by simp,by simp only; omega,by simp only; omega,ha,.inr (.inr ⟨.inl rfl,rfl,rfl⟩)⟩,fun c=>by simp [cntM] at c⟩
theorem crTo_ms {p:ParD} (hr:parR p=true) {i:Nat} {a acct:Int} (ha:0≤a) {x:CrX} (h:∀ m∈x.ms,MI p m∧MF p m):∀ m∈(crTo p i a acct x).ms,MI p m∧MF p m :=
 setPm (P:=fun m=>MI p m∧MF p m) h fun hi=>by
  have g:=grP (P:=fun m=>MI p m∧MF p m) h hi
  exact cred_mi hr g.1 g.2 ha
theorem crStep_ms {p:ParD} (hr:parR p=true) {d:DepD} (ha:0≤d.amt) (hd:0≤d.acct∧d.acct<64) {x:CrX} (h:∀ m∈x.ms,MI p m∧MF p m):∀ m∈(crStep p d x).ms,MI p m∧MF p m:=by
 unfold crStep
 split
 ·split
  ·exact h
  ·refine crTo_ms hr ha fun m hm=>?_
   rcases List.mem_append.1 hm with hm | hm
   ·exact h m hm
   ·rw [List.mem_singleton] at hm
    subst hm
    exact new_mi hr hd
 ·exact crTo_ms hr ha h
theorem crK_ms {p:ParD} (hr:parR p=true) {l:List DepD} (hl:∀ d∈l,0≤d.amt∧0≤d.acct∧d.acct<64) {x:CrX} (h:∀ m∈x.ms,MI p m∧MF p m):∀ k,k≤l.length→∀ m∈(crK p l x k).ms,MI p m∧MF p m
 | 0,_=>h
 | k+1,hk=>by
  have hd:=hl (gr zeroDep l k) (gr_mem (by omega))
  exact crStep_ms hr hd.1 hd.2 (crK_ms hr hl h k (by omega))
theorem stK_ms {p:ParD} (hr:parR p=true) (t:Int) (W:List Int) {x:StX} (h:∀ m∈x.ms,MI p m∧MF p m):∀ k,∀ m∈(stK p t W x k).ms,MI p m∧MF p m
 | 0=>h
 | k+1=>by
  have ih:=stK_ms hr t W h k
  rw [stK,stStep]
  split
  ·exact setPm (P:=fun m=>MI p m∧MF p m) ih fun hi=>by
    have g:=grP (P:=fun m=>MI p m∧MF p m) ih hi
    exact start_mi hr g.1 g.2
  ·exact setPm (P:=fun m=>MI p m∧MF p m) ih fun hi=>ended_mi hr (grP (P:=fun m=>MI p m∧MF p m) ih hi).1 (.inl rfl)
theorem en_ms {s:StD} {D:Nat} (ti:TkI s D) (r:RepD) (t:Int) (h:∀ m∈s.members,MI s.par m∧MF s.par m):∀ m∈(enS s r t).members,MI s.par m∧MF s.par m:=by
 unfold enS
 split
 ·have hpl:=ti.pl
  have hx:∀ m∈(enX s).ms,MI s.par m∧MF s.par m:=crK_ms ti.r (fun d hd=>by have:=ti.oo d hd; exact ⟨this.1.a.1,this.2.1,by omega⟩) h _ (Nat.le_refl _)
  exact stK_ms ti.r t _ hx _
 ·exact h
variable {L:Own} {h:PH} {K:PK}
theorem IsCert.range {v:Value} {c:CertD} (hc:IsCert h v c) (i:Nat):0≤at0 c.st i∧at0 c.st i≤18446744073709551615:=by
 obtain ⟨_,_,_,hs,_⟩:=hc; exact hs.word i
def sgn (c:CertD) (i:Nat):Bool:=getB c.bs i
def pres (c:CertD):Int:=wsum c.st (sgn c) c.st.length
structure IsDeed (h:PH) (bv:Value) (d:DeedD):Prop where
 i:Ints h .u8 bv d.bits
 ok:DeedOk d
theorem IsDeed.up {h h':PH} (le:PH.le h h') {bv:Value} {d:DeedD} (hd:IsDeed h bv d):IsDeed h' bv d:=⟨hd.i.up le,hd.ok⟩
theorem par_ext {p q:ParD} (hpq:wides p++narrows p=wides q++narrows q):p=q:=by
 cases p; cases q
 simp only [wides,narrows,List.cons_append,List.nil_append,List.cons.injEq] at hpq
 simp only [ParD.mk.injEq]
 simp only [hpq,and_self]
def parK:List IntKind:=[.u64,.u64,.u64,.u64,.u64,.u64,.u64,.u64,.u64,.u64,.u64,.u64,.u64,.u64,.i64,.i64,.i64,.i64,.i64,.i64,.i64,.i64,.i64,.i64]
end Go.X
