/- Lemmas and contracts for a statement about the given program. Conditions: as each says. -/
import Derived.Test.YtmmfajokfdaokaaGreatQ18
import Derived.Test.YtmmfajokfdaokaaGreatQ21
import Derived.Test.YtmmfajokfdaokaaGreatQ22
set_option linter.unusedVariables false
set_option linter.unusedSimpArgs false
set_option maxHeartbeats 12800000
set_option maxRecDepth 20000
namespace Go.X
open Go.RowKit Go.Proofs Go.Bl
variable {L:Own} {h:PH} {K:PK}
def startM (p:ParD) (m:MemD):MemD×Bool :=
 if m.status=1∧p.floor<m.bal∧m.bal≤p.cap then ({ m with status:=2,eff:=wholeP p m.bal,streak:=0 },true) else (m,false)
theorem mstart_any (p:ParD) (ok:ParOk p) (hr:parR p=true) (m:MemD) (mo:MemOk m) (hk:K (.tuple #[memV (startM p m).1,.bool (startM p m).2]) L h):Spec Tryz.prog 158 [parV p,memV m] L h K:=by
 have hb:0≤m.bal∧m.bal≤18446744073709551615:=mo.u _ (by simp)
 refine x_enter Tryz.func158 rfl (rs:=[_,_]) rfl rfl mixed (by kernel_rfl) rfl rfl ?_
 refine xx ?_
 refine xnew fun b1 n_b1 h_b1=>?_
 try simp only [Apart] at n_b1
 refine xx ?_
 refine xnew fun b2 n_b2 h_b2=>?_
 try simp only [Apart] at n_b2
 refine xx ?_
 refine xnew fun b3 n_b3 h_b3=>?_
 try simp only [Apart] at n_b3
 refine xx ?_
 refine pcheck0 p ok ?_
 rw [if_pos hr]
 refine xx ?_
 by_cases c1:m.status=1
 ·by_cases c2:m.bal≤p.floor
  ·rw [startM,if_neg (by omega)] at hk
   refine xx ?_
   exact fin_tail (fin_tail (fin_tail (fin_here hk)))
  ·by_cases c3:m.bal≤p.cap
   ·rw [startM,if_pos ⟨c1,by omega,c3⟩] at hk
    refine xx ?_
    refine gwhole_any p ok m.bal hb ?_
    rw [if_pos hr]
    refine xx ?_
    exact fin_tail (fin_tail (fin_tail (fin_here hk)))
   ·rw [startM,if_neg (by omega)] at hk
    refine xx ?_
    exact fin_tail (fin_tail (fin_tail (fin_here hk)))
 ·rw [startM,if_neg (by omega)] at hk
  refine xx ?_
  exact fin_tail (fin_tail (fin_tail (fin_here hk)))
def endR (m:MemD) (r:Int):MemD:={ m with status:=r,bal:=0,eff:=0,streak:=0 }
theorem mendR_any (m:MemD) (r:Int) (hk:K (.tuple #[memV (endR m r),.int .u64 m.bal]) L h):Spec Tryz.prog 266 [memV m,.int .i64 r] L h K:=by
 refine x_enter Tryz.func266 rfl (rs:=[_,_]) rfl rfl mixed (by kernel_rfl) rfl rfl ?_
 refine xx ?_
 refine xnew fun b2 n_b2 h_b2=>?_
 try simp only [Apart] at n_b2
 refine xx ?_
 refine xnew fun b4 n_b4 h_b4=>?_
 try simp only [Apart] at n_b4
 refine xx ?_
 exact fin_tail (fin_tail (fin_here hk))
def crTake (p:ParD) (m:MemD) (a:Int):Int:=min a (fallP p.cap m.bal)
def credM (p:ParD) (m:MemD) (a:Int):MemD :=
 if 0<m.bal+crTake p m a∧(m.status=4∨m.status=5) then { m with bal:=m.bal+crTake p m a,status:=1,eff:=0 } else { m with bal:=m.bal+crTake p m a }
theorem mcredit_any (p:ParD) (ok:ParOk p) (hr:parR p=true) (m:MemD) (mo:MemOk m) (a:Int) (ha:0≤a∧a≤18446744073709551615) (hs:m.bal+a≤18446744073709551615) (hk:K (.tuple #[memV (credM p m a),.int .u64 (a-crTake p m a)]) L h):Spec Tryz.prog 268 [parV p,memV m,.int .u64 a] L h K:=by
 have hb:0≤m.bal∧m.bal≤18446744073709551615:=mo.u _ (by simp)
 have hc:0≤p.cap∧p.cap≤18446744073709551615:=ok.w _ (by simp [wides])
 refine x_enter Tryz.func268 rfl (rs:=[_,_]) rfl rfl mixed (by kernel_rfl) rfl rfl ?_
 refine xx ?_
 refine xnew fun b1 n_b1 h_b1=>?_
 try simp only [Apart] at n_b1
 refine xx ?_
 refine xnew fun b2 n_b2 h_b2=>?_
 try simp only [Apart] at n_b2
 refine xx ?_
 refine xnew fun b3 n_b3 h_b3=>?_
 try simp only [Apart] at n_b3
 refine xx ?_
 refine pcheck0 p ok ?_
 rw [if_pos hr]
 refine xx ?_
 refine mfall_any p.cap m.bal hc hb ?_
 refine xx ?_
 have hf:0≤fallP p.cap m.bal:=by unfold fallP; split<;>omega
 refine mtake_any a _ ha hf ?_
 have e1:min a (fallP p.cap m.bal)=crTake p m a:=rfl
 rw [e1]
 have h1:0≤crTake p m a∧crTake p m a≤a:=by unfold crTake; omega
 unfold credM at hk
 obtain ⟨t,ht⟩:∃ t,t=crTake p m a:=⟨_,rfl⟩
 rw [← ht] at hk h1 ⊢
 refine xx ?_
 by_cases c1:0<m.bal+t
 ·by_cases c2:m.status=4
  ·rw [if_pos ⟨c1,Or.inl c2⟩] at hk
   refine xx ?_
   exact fin_tail (fin_tail (fin_tail (fin_here hk)))
  ·by_cases c3:m.status=5
   ·rw [if_pos ⟨c1,Or.inr c3⟩] at hk
    refine xx ?_
    exact fin_tail (fin_tail (fin_tail (fin_here hk)))
   ·rw [if_neg (fun e=>e.2.elim c2 c3)] at hk
    refine xx ?_
    exact fin_tail (fin_tail (fin_tail (fin_here hk)))
 ·rw [if_neg (fun e=>c1 e.1)] at hk
  refine xx ?_
  exact fin_tail (fin_tail (fin_tail (fin_here hk)))
def mintOk (s:StD) (a:Int):Prop:=tot [s.gen,s.mint,a]≤min s.most 4611686018427387904∧s.treas+a≤18446744073709551615
def mintT (s:StD) (a:Int):StD:={ s with mint:=s.mint+a,treas:=s.treas+a }
def zStV:Value := .agg #[.int .u64 0,.int .u64 0,.int .u64 0,.int .u64 0,.int .u64 0,.int .u64 0,.int .u64 0,.int .u64 0,.int .u64 0,.int .u64 0,.int .u64 0,.int .u64 0,.int .u64 0,.int .u64 0,.int .i64 0,.int .i64 0,.int .i64 0,.int .i64 0,.int .i64 0,.int .i64 0,.int .i64 0,.int .i64 0,.int .i64 0,.int .i64 0,.int .u64 0,.int .u64 0,.int .u64 0,.int .u64 0,.int .u64 0,.int .i64 0,.int .i64 0,.bool false,.slice none 0 0,.slice none 0 0,.slice none 0 0,.slice none 0 0,.slice none 0 0,.slice none 0 0,.slice none 0 0,.slice none 0 0,.slice none 0 0]
def OneS (v:SV):Prop:=v.p.oneCell'=true∧v.m.oneCell'=true∧v.e.oneCell'=true∧v.x.oneCell'=true∧v.o.oneCell'=true∧v.d.oneCell'=true∧v.t.oneCell'=true∧v.k.oneCell'=true∧v.r.oneCell'=true
theorem smint_any {s:StD} (v:SV) (hv:OneS v) (ok:StOk s) (a:Int) (ha:0≤a∧a≤18446744073709551615)
  (hk:mintOk s a→∀ h',PH.le h h'→K (.tuple #[stV (mintT s a) v,.int .i64 0]) L h') (hno:¬ mintOk s a→∀ h',PH.le h h'→K (.tuple #[zStV,.int .i64 210]) L h'):Spec Tryz.prog 144 [stV s v,.int .u64 a] L h K:=by
 have h1:0≤s.most∧s.most≤18446744073709551615:=ok.u _ (by simp)
 have h2:0≤s.gen∧s.gen≤18446744073709551615:=ok.u _ (by simp)
 have h3:0≤s.mint∧s.mint≤18446744073709551615:=ok.u _ (by simp)
 have h4:0≤s.treas∧s.treas≤18446744073709551615:=ok.u _ (by simp)
 unfold mintOk at hk hno
 unfold zStV at hno
 refine x_enter Tryz.func144 rfl (rs:=[_,_]) rfl rfl mixed (by kernel_rfl) rfl rfl ?_
 refine xx ?_
 refine xnew fun b2 n_b2 h_b2=>?_
 try simp only [Apart] at n_b2
 refine xx ?_
 refine xnew fun b4 n_b4 h_b4=>?_
 try simp only [Apart] at n_b4
 have n4:=n_b4.1
 clear n_b4
 refine xx ?_
 refine xnew fun b9 n_b9 h_b9=>?_
 try simp only [Apart] at n_b9
 refine xx ?_
 refine call_pub_o (e:=22) (sz:=1) (o:=some (b9,3)) (n:=3) [] (show 3≤3∧3≤maxLen by decide) rfl (by decide) (fun h5 le5 sl5=>?_) ⟨Tryz.f109,Tryz.func109,by decide +kernel,rfl⟩
 have it:Ints h5 .u64 (ovs (some (b9,3)) 3) [s.gen,s.mint,a]:=⟨sl5,fun z hz=>by
  rw [show IntKind.u64.min=0 by decide,show IntKind.u64.max=18446744073709551615 by decide]
  simp only [List.mem_cons,List.not_mem_nil,or_false] at hz
  rcases hz with rfl | rfl | rfl
  ·exact h2
  ·exact h3
  ·exact ha⟩
 refine Spec.ap (swithin_any _ _ it (by omega) fun ap=>?_)
 simp only [Ap,List.nil_append] at ap
 obtain ⟨a4,a2,_⟩:=ap
 by_cases c1:tot [s.gen,s.mint,a]≤min s.most 4611686018427387904
 ·rw [decide_eq_true c1]
  refine xx ?_
  refine madd_any _ _ h4 ha ?_
  by_cases c2:s.treas+a≤18446744073709551615
  ·rw [sumV_ok c2]
   have hm:tot [s.gen,s.mint,a]=s.gen+s.mint+a:=by simp [tot,sumK,at0]
   have hk:=hk ⟨c1,c2⟩ h5 le5
   unfold mintT at hk
   refine xx ?_
   exact ⟨hv,fin_tail (fin_tail (fin_here hk))⟩
  ·rw [sumV_no c2]
   refine xx ?_
   exact fin_tail (fin_tail (fin_here (hno (fun e=>c2 e.2) h5 le5)))
 ·rw [decide_eq_false c1]
  refine xx ?_
  exact fin_tail (fin_tail (fin_here (hno (fun e=>c1 e.1) h5 le5)))
def burnOk (s:StD) (a:Int):Prop:=a≤s.treas∧s.burn+a≤18446744073709551615
def burnT (s:StD) (a:Int):StD:={ s with burn:=s.burn+a,treas:=s.treas-a }
theorem sburn_any {s:StD} (v:SV) (hv:OneS v) (ok:StOk s) (a:Int) (ha:0≤a∧a≤18446744073709551615) (hgo:burnOk s a)
  (hk:K (.tuple #[stV (burnT s a) v,.int .i64 0]) L h):Spec Tryz.prog 151 [stV s v,.int .u64 a] L h K:=by
 have h3:0≤s.burn∧s.burn≤18446744073709551615:=ok.u _ (by simp)
 have h4:0≤s.treas∧s.treas≤18446744073709551615:=ok.u _ (by simp)
 obtain ⟨c1,c2⟩:=hgo
 unfold burnT at hk
 refine x_enter Tryz.func151 rfl (rs:=[_,_]) rfl rfl mixed (by kernel_rfl) rfl rfl ?_
 refine xx ?_
 refine xnew fun b2 n_b2 h_b2=>?_
 try simp only [Apart] at n_b2
 refine xx ?_
 refine xnew fun b4 n_b4 h_b4=>?_
 try simp only [Apart] at n_b4
 have n4:=n_b4.1
 clear n_b4
 refine xx ?_
 refine msub_any _ _ h4 ha ?_
 rw [if_pos c1]
 refine xx ?_
 refine madd_any _ _ h3 ha ?_
 rw [sumV_ok c2]
 refine xx ?_
 exact ⟨hv,fin_tail (fin_tail (fin_here hk))⟩
end Go.X
