/- Lemmas and contracts for a statement about the given program. Conditions: as each says. -/
import Derived.Test.YtmmfajokfdaokaaGreatQ13
import Derived.Test.YtmmfajokfdaokaaGreatQ14
import Derived.Test.YtmmfajokfdaokaaGreatQ18
import Derived.Test.YtmmfajokfdaokaaGreatQ22
set_option linter.unusedVariables false
set_option linter.unusedSimpArgs false
set_option maxHeartbeats 12800000
set_option maxRecDepth 20000
namespace Go.X
open Go.RowKit Go.Proofs Go.Bl
variable {L:Own} {h:PH} {K:PK}
theorem mown_any {ql : List QM} {ms : List MotD} (v : Value) (hv : Recs motC 33 h v ql) (hq : ql.map (fun x => x.2.2) = ms) (hm : MotsOk h ql) (hl : ql.length ≤ 1000) (hb : ∀ m ∈ ms,m.yes.length ≤ 1000 ∧ m.no.length ≤ 1000)
    (hk:∀ h' o ql',PH.le h h'→okO o ms.length→apO o L h'→ql'.map (fun x=>x.2.2)=ms→MotsOk h' ql'→K (ovs o ms.length) (oent 75 33 o (ql'.flatMap motC) L) h') :
    Spec Tryz.prog 269 [v] L h K:=by
  have hql:ql.length=ms.length:=by rw [← hq,List.length_map]
  have hv0:=hv
  obtain ⟨va,vc,rfl,_⟩:=hv.open
  refine x_enter Tryz.func269 rfl (rs:=[_]) rfl rfl mixed (by kernel_rfl) rfl rfl ?_
  refine xx ?_
  refine cloneT_own _ hv0 hm hl fun ot ok2 at1=>?_
  rw [hql] at ok2 ⊢
  obtain ⟨mta,mtc,emt,_⟩:=ovs_open ok2
  rw [emt]
  refine xx ?_
  refine xloop (γ:=Nat×List QM×PH) (0,ql,h)
    (fun q=>q.1≤ms.length∧q.2.1.map (fun x=>x.2.2)=ms∧MotsOk q.2.2 q.2.1∧PH.le h q.2.2∧apO ot L q.2.2)
    (fun q=>[(9,.int .i64 q.1),(8,.int .i64 ms.length),(3,.slice mta ms.length mtc)])
    (fun q=>oent 75 33 ot (q.2.1.flatMap motC) L) (fun q=>q.2.2) (fun q=>ms.length-q.1) ?_ ?_ ?_ ?_
  · exact ⟨Nat.zero_le _,hq,hm,PH.le_refl _,at1⟩
  · simp [Ent,List.lookup,xEnv]
  · exact Drop.refl _ _
  rintro ⟨k,ql',h6⟩ ⟨k1,k2,k3,k4,k8⟩
  simp only at k1 k2 k3 k4 k8 ⊢
  have hql':ql'.length=ms.length:=by rw [← k2,List.length_map]
  by_cases c1:k<ms.length
  · obtain ⟨bt,cap,rfl⟩ : ∃ bt cap,ot = some (bt,cap) := by
      cases ot with
      | none=>have:ms.length=0:=ok2; omega
      | some p=>exact ⟨_,_,rfl⟩
    simp only [ovs,Value.slice.injEq] at emt
    obtain ⟨rfl,_,rfl⟩:=emt
    have hbt:h6 bt=noC:=k8.2
    obtain ⟨qk,hqk⟩:∃ qk,qk=gr zeroQM ql' k:=⟨_,rfl⟩
    have hmem:qk∈ql':=by rw [hqk,gr_lt (by omega)]; exact List.getElem_mem _
    have hmk:IsMot h6 qk:=k3 qk hmem
    have hmdm:qk.2.2∈ms:=by rw [← k2]; exact List.mem_map.2 ⟨qk,hmem,rfl⟩
    obtain ⟨vy,vn,md⟩:=qk
    have hy:=hmk.y
    have hn:=hmk.n
    simp only at hy hn
    obtain ⟨ya,yc,rfl,_⟩:=hy.open
    obtain ⟨na,nc,rfl,_⟩:=hn.open
    simp only at hmdm
    have fv:=hb md hmdm
    have g31:∀ (K:Value→Prop) (t:Tok K),xNth (ql'.flatMap motC) (k*33+31) K t=K (.slice ya md.yes.length yc):=fun K t=>xNth_rec motC_len zeroQM ql' (by omega) (by decide) (by rw [← hqk]; rfl) K t
    have g32:∀ (K:Value→Prop) (t:Tok K),xNth (ql'.flatMap motC) (k*33+32) K t=K (.slice na md.no.length nc):=fun K t=>xNth_rec motC_len zeroQM ql' (by omega) (by decide) (by rw [← hqk]; rfl) K t
    have hfl:(ql'.flatMap motC).length=ms.length*33:=by rw [flatG_len motC_len,hql']
    rw [oent_some]
    refine xx ?_
    refine xanyl (.tk 0 (.tk 1 (.tk 2 (.tk 3 (.tk 4 (.tk 5 (.tk 6 (.tk 7 (.tk 10 (.tk 11 (.tk 12 (.tk 13 (.tkl 8 (.tkl 14 (.or true 9 (.or true 15 (.tk 16 (.tk 17 (.or false 18 (.tk 19 (.tk 20 (.or false 21 (.fin) (.nil)))) (.nil)))) (.nil)) (.nil)))))))))))))))) (by kernel_rfl) (by kernel_rfl) _ (Drop.refl _ _) ?_
    simp -dsimp -implicitDefEqProofs (disch:=first|with_reducible assumption|omega) [go_sem,g31,g32]
    have hset:∀ a ac b bc,((ql'.flatMap motC).set (k*33+31) (.slice a md.yes.length ac)).set (k*33+32) (.slice b md.no.length bc)=(ql'.set k (.slice a md.yes.length ac,.slice b md.no.length bc,md)).flatMap motC:=fun a ac b bc=>by
      rw [flatG_set motC_len zeroQM ql' (i:=k) (m:=31) (a':=(.slice a md.yes.length ac,.slice na md.no.length nc,md)) (by omega) (by decide) (by rw [← hqk]; rfl)]
      rw [flatG_set motC_len zeroQM _ (i:=k) (m:=32) (a':=(.slice a md.yes.length ac,.slice b md.no.length bc,md)) (by rw [List.length_set]; omega) (by decide) (by rw [gr_lt (by rw [List.length_set]; omega),List.getElem_set_self]; rfl),List.set_set]
    have hmd:ms[k]?=some md:=by
      rw [← k2,List.getElem?_map,List.getElem?_eq_getElem (by omega),← gr_lt (z:=zeroQM) (by omega),← hqk]
      rfl
    have hmap:∀ (a b:Value),(ql'.set k (a,b,md)).map (fun x=>x.2.2)=ms:=fun a b=>by
      rw [List.map_set,k2]
      apply List.ext_getElem?
      intro n
      rw [List.getElem?_set]
      split
      · rename_i e
        subst e
        first
        | exact hmd.symm
        | (split
           · exact hmd.symm
           · rw [List.getElem?_eq_none (by omega)])
      · rfl
    repeat' first
      | refine xpl_or ?_ ?_
      | simp -dsimp -implicitDefEqProofs (disch:=first|with_reducible assumption|omega) [go_sem,g31,g32]
    all_goals
      refine Spec.ap (clone8_any _ hy (by omega) fun h7 v7 le7 i7 ap=>?_)
      obtain ⟨y1,y2⟩:=ap
      obtain ⟨wa,wc,rfl,_⟩:=i7.open
      first
      | refine xkp (Drop.forget le7) ?_
      | skip
    repeat' first
      | refine xpl_or ?_ ?_
      | simp -dsimp -implicitDefEqProofs (disch:=first|with_reducible assumption|omega) [go_sem,g31,g32]
      | refine xkp (Drop.forget le7) ?_
    all_goals
      refine Spec.ap (clone8_any _ (hn.up le7) (by omega) fun h8 v8 le8 i8 ap=>?_)
      obtain ⟨z1,z2⟩:=ap
      obtain ⟨ua,uc,rfl,_⟩:=i8.open
      first
      | refine xkp (Drop.forget (le7.trans le8)) ?_
      | skip
    repeat' first
      | refine xpl_or ?_ ?_
      | simp -dsimp -implicitDefEqProofs (disch:=first|with_reducible assumption|omega) [go_sem,g31,g32]
      | refine xkp (Drop.forget (le7.trans le8)) ?_
    all_goals
      have hsum:(ql'.map fun a=>(motC a).length).sum=ms.length*33:=by rw [← List.length_flatMap,hfl]
      have hk33:=flat_lt (n:=ms.length) (w:=33) c1 (m:=32) (by decide)
      refine ⟨by omega,by omega,k+1,ql'.set k (.slice wa md.yes.length wc,.slice ua md.no.length uc,md),h8,⟨by omega,hmap _ _,fun x hx=>?_,k4.trans (le7.trans le8),⟨k8.1,z1⟩⟩,by omega,by simp [Ent,List.lookup],?_⟩
      · rcases List.mem_or_eq_of_mem_set hx with hx | rfl
        · exact (k3 x hx).up (le7.trans le8)
        · exact ⟨i7.up le8,i8,hmk.ok⟩
      · rw [hset]; exact Drop.refl _ _
  have hkl:k=ms.length:=by omega
  subst hkl
  rw [← emt]
  refine xx ?_
  exact fin_here (hk h6 ot ql' k4 ok2 k8 k2 k3)
end Go.X
