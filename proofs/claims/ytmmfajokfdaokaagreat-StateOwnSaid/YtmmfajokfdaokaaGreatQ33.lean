/- Lemmas and contracts for a statement about the given program. Conditions: as each says. -/
import Derived.Test.YtmmfajokfdaokaaGreatQ32
set_option linter.unusedVariables false
set_option linter.unusedSimpArgs false
set_option maxHeartbeats 12800000
set_option maxRecDepth 20000
namespace Go.X
open Go.RowKit Go.Proofs Go.Bl
variable {L:Own} {h:PH} {K:PK}
theorem tfnc_any {bb bm cm bx : Nat} {s : StD} {v : SV} {r : RepD} {q : RV} {w : Int} (ok : ParOk s.par) (hr : parR s.par = true) (hk0 : Ints h .u8 v.k s.marks) (mo : ∀ x ∈ s.members,MemOk x) (i : Nat) (hi : i < s.members.length) (hml : s.members.length ≤ 900)
    (h1:0≤s.treas∧s.treas+fineP s.par (gr zeroM s.members i) r.mode≤18446744073709551615) (h2:0≤r.burned∧r.burned+fineP s.par (gr zeroM s.members i) r.mode≤18446744073709551615) (h3:0≤r.fees∧r.fees+fineP s.par (gr zeroM s.members i) r.mode≤18446744073709551615)
    (hk:getB s.marks i=false→K (.tuple #[]) (tB bb { s with treas:=s.treas+fineP s.par (gr zeroM s.members i) r.mode,members:=s.members.set i (fineM s.par (gr zeroM s.members i) r.mode) } v { r with burned:=r.burned+burnP s.par (fineP s.par (gr zeroM s.members i) r.mode),fees:=r.fees+(fineP s.par (gr zeroM s.members i) r.mode-burnP s.par (fineP s.par (gr zeroM s.members i) r.mode)) } q w::tM bm cm (s.members.set i (fineM s.par (gr zeroM s.members i) r.mode))::tX bx bb::L) h)
    (hno:getB s.marks i=true→K (.tuple #[]) (tB bb s v r q w::tM bm cm s.members::tX bx bb::L) h) :
    Spec Tryz.prog 149 [.int .i64 i,.pointer (some ⟨bm,i*6,none⟩),.pointer (some ⟨bx,0,none⟩)] (tB bb s v r q w::tM bm cm s.members::tX bx bb::L) h K:=by
  refine x_enterA Tryz.func149 rfl (rs:=[]) rfl rfl mixed (by kernel_rfl) rfl rfl fun ap nd=>?_
  obtain ⟨hbb,hbm,hbx,nmb,nbx,nmx⟩:=th_facts ap nd
  simp only at hbb hbm hbx nmb nbx nmx
  clear ap nd
  obtain ⟨g0,g1,g2,g3,g4,g5⟩:=memT hi
  have hi6:=flat_lt (w:=6) hi (show 3<6 by decide)
  have hsum:=memS (ms:=s.members) rfl
  refine xx ?_
  refine tthere_any hk0 i (by omega) ?_
  cases c:getB s.marks i with
  | true =>
    have hno:=hno c
    refine xx ?_
    exact fin_here hno
  | false =>
  have hk:=hk c
  clear hno
  obtain ⟨_,b1,b2,b3,b4⟩:=fineM_ok ok hr (mo _ (gr_mem (z:=zeroM) hi)) r.mode
  have hst:=stdSet hi (fineM s.par (gr zeroM s.members i) r.mode) rfl rfl
  refine xx ?_
  refine xany_cut (.tk 5 (.tk 6 (.tk 7 (.tkl 0 (.tk 1 (.tk 2 (.tk 3 (.tkl 4 (.tkl 8 (.tkl 9 (.tk 10 (.tk 11 (.tk 12 (.tkl 13 (.or true 14 (.tk 15 (.tk 16 (.tk 17 (.tk 18 (.or true 19 (.or false 20 (.tk 21 (.tk 22 (.fin))) (.nil)) (.nil)))))) (.or true 19 (.or true 14 (.tk 15 (.tk 16 (.tk 17 (.tk 18 (.or false 20 (.tk 21 (.tk 22 (.fin))) (.nil)))))) (.nil)) (.nil))))))))))))))))) (by kernel_rfl) (by kernel_rfl) [(0,.int .i64 i),(1,.pointer (some ⟨bm,i*6,none⟩)),(2,.pointer (some ⟨bx,0,none⟩))] _ (γ:=Nat) (fun b5=>bb≠b5∧bm≠b5∧bx≠b5∧h b5=noC)
    (fun b5=>[(1,.pointer (some ⟨bm,i*6,none⟩)),(2,.pointer (some ⟨bx,0,none⟩)),(5,.pointer (some ⟨b5,0,none⟩)),(6,.int .u64 (burnP s.par (fineP s.par (gr zeroM s.members i) r.mode))),(7,.int .u64 (fineP s.par (gr zeroM s.members i) r.mode-burnP s.par (fineP s.par (gr zeroM s.members i) r.mode)))])
    (fun b5=>⟨b5,71,sdC (fineM s.par (gr zeroM s.members i) r.mode),4⟩::tB bb s v r q w::tM bm cm s.members::tX bx bb::L) (fun _=>h) (by simp [Ent,List.lookup,xEnv]) (Drop.refl _ _) ?_ ?_
  · repeat' first
      | with_reducible refine xpl_or ?_ ?_
      | simp -dsimp -implicitDefEqProofs (disch:=first|with_reducible assumption|omega) [go_sem,g0,g1,g2,g3]
      | (with_reducible refine xnew fun b5 n_b5 h_b5 => ?_
         simp only [Apart] at n_b5)
      | (with_reducible show xCall Tryz.prog 150 _ _ _ _
         refine ftake_any s.par ok hr (gr zeroM s.members i) (mo _ (gr_mem hi)) r.mode ?_)
      | with_reducible refine xkp (Drop.refl _ _) ?_
      | with_reducible refine xkp (Drop.tail _ _ _) ?_
    all_goals exact ⟨b5,⟨n_b5.1,n_b5.2.1,n_b5.2.2.1,h_b5⟩,by simp [Ent,List.lookup],Drop.refl _ _⟩
  rintro b5 ⟨n1,n2,n3,h5⟩
  have hm:(fineM s.par (gr zeroM s.members i) r.mode).bal=(gr zeroM s.members i).bal-fineP s.par (gr zeroM s.members i) r.mode∧(fineM s.par (gr zeroM s.members i) r.mode).eff=(gr zeroM s.members i).eff:=⟨rfl,rfl⟩
  generalize fineM s.par (gr zeroM s.members i) r.mode=fm at *
  obtain ⟨f,hf⟩:∃ f,f=fineP s.par (gr zeroM s.members i) r.mode:=⟨_,rfl⟩
  rw [← hf] at h1 h2 h3 b1 b2 b3 b4 hk ⊢
  obtain ⟨b,hb⟩:∃ b,b=burnP s.par f:=⟨_,rfl⟩
  rw [← hb] at b3 b4 hk ⊢
  have e1:s.treas+(b+(f-b))=s.treas+f:=by omega
  simp only [sdC]
  refine xx ?_
  refine ⟨by omega,?_⟩
  rw [hst,e1]
  exact fin_tail (fin_here hk)
theorem fnS_yes {s:StD} {r:RepD} {k:Nat} (hk:k<s.members.length) (c:fnC s.marks k (gr zeroM s.members k)) :
  fnSk s r (k+1)={ fnSk s r k with treas:=(fnSk s r k).treas+fineP s.par (gr zeroM s.members k) r.mode,members:=(fnSk s r k).members.set k (fineM s.par (gr zeroM (fnSk s r k).members k) r.mode) } ∧
  fnR s r (k+1)={ fnR s r k with burned:=(fnR s r k).burned+burnP s.par (fineP s.par (gr zeroM s.members k) r.mode),fees:=(fnR s r k).fees+(fineP s.par (gr zeroM s.members k) r.mode-burnP s.par (fineP s.par (gr zeroM s.members k) r.mode)) }:=by
 have hat:=upI_at (fnF s.par s.marks r.mode) s.members hk
 have u1:upI (fnF s.par s.marks r.mode) s.members (k+1)=(upI (fnF s.par s.marks r.mode) s.members k).set k (fineM s.par (gr zeroM (upI (fnF s.par s.marks r.mode) s.members k) k) r.mode):=by
  rw [upI,hat,fnF,if_pos c]
 have u2:fnTs s r (k+1)=fnTs s r k+fineP s.par (gr zeroM s.members k) r.mode:=by rw [fnTs,fnT,if_pos c]
 have u3:fnUs s r (k+1)=fnUs s r k+burnP s.par (fineP s.par (gr zeroM s.members k) r.mode):=by rw [fnUs,fnU,if_pos c]
 constructor
 ·show ({ s with treas:=s.treas+fnTs s r (k+1),members:=upI (fnF s.par s.marks r.mode) s.members (k+1) }:StD)={ s with treas:=s.treas+fnTs s r k+fineP s.par (gr zeroM s.members k) r.mode,members:=(upI (fnF s.par s.marks r.mode) s.members k).set k (fineM s.par (gr zeroM (upI (fnF s.par s.marks r.mode) s.members k) k) r.mode) }
  rw [u1,u2,Int.add_assoc]
 ·show ({ r with burned:=r.burned+fnUs s r (k+1),fees:=r.fees+(fnTs s r (k+1)-fnUs s r (k+1)) }:RepD)={ r with burned:=r.burned+fnUs s r k+burnP s.par (fineP s.par (gr zeroM s.members k) r.mode),fees:=r.fees+(fnTs s r k-fnUs s r k)+(fineP s.par (gr zeroM s.members k) r.mode-burnP s.par (fineP s.par (gr zeroM s.members k) r.mode)) }
  rw [u2,u3]
  congr 1<;>omega
theorem fnS_no {s:StD} {r:RepD} {k:Nat} (hk:k<s.members.length) (c:¬ fnC s.marks k (gr zeroM s.members k)):fnSk s r (k+1)=fnSk s r k∧fnR s r (k+1)=fnR s r k:=by
 have u1:upI (fnF s.par s.marks r.mode) s.members (k+1)=upI (fnF s.par s.marks r.mode) s.members k:=upI_same _ _ hk (if_neg c)
 have u2:fnTs s r (k+1)=fnTs s r k:=by rw [fnTs,fnT,if_neg c]
 have u3:fnUs s r (k+1)=fnUs s r k:=by rw [fnUs,fnU,if_neg c]
 unfold fnSk fnR
 rw [u1,u2,u3]
 exact ⟨rfl,rfl⟩
theorem tfines_any {bb D : Nat} {om : Option (Nat × Nat)} {s : StD} {v : SV} {r : RepD} {q : RV} {w : Int} (ti : TkI s D) (hb0 : r.burned = 0) (hf0 : r.fees = 0) (hv : OneS v) (hk0 : Ints h .u8 v.k s.marks) (hm : v.m = ovs om s.members.length) (okm : okO om s.members.length)
    (hk:K (.tuple #[]) (tB bb (fnS s r) v (fnR s r s.members.length) q w::tMo om (fnS s r).members L) h) :
    Spec Tryz.prog 73 [.pointer (some ⟨bb,0,none⟩)] (tB bb s v r q w::tMo om s.members L) h K:=by
  have hml:=ti.ml
  obtain ⟨n,hn⟩:∃ n,n=s.members.length:=⟨_,rfl⟩
  obtain ⟨p1,p2,p3,p4,p5,p6⟩:=ti.parts
  have hsum:=ti.sum
  have hgo:=fn_ok ti hb0
  have hen:=fnk_ti ti r (Nat.le_refl s.members.length)
  obtain ⟨c1,c2,c3⟩:=fn_b ti r (Nat.le_refl s.members.length)
  rw [← hn] at hk hgo hen c1 c2 c3
  refine x_enterA Tryz.func73 rfl (rs:=[]) rfl rfl mixed (by kernel_rfl) rfl rfl fun ap nd=>?_
  have hbb:h bb=noC:=ap.1
  have hbm:apO om [] h:=ap_here ap.2
  have nmb:apB om bb:=apart_here nd.1
  clear ap nd
  refine xx ?_
  refine xnew fun bx n_bx h_bx=>?_
  try simp only [Apart] at n_bx
  have nbx:=n_bx.1
  have nmx:apB om bx:=apart_here n_bx.2
  refine xx ?_
  refine Spec.weaken (Drop.perm h perm2m) ?_
  have e0:fnSk s r 0=s∧fnR s r 0=r:=by
    unfold fnSk fnR
    simp [fnT,fnU,upI]
  have key:∀ K':PK,K' (.tuple #[]) (tB bb (fnSk s r n) v (fnR s r n) q w::tMo om (fnSk s r n).members (tX bx bb::L)) h→Spec Tryz.prog 139 [.pointer (some ⟨bb,0,none⟩),.func (.func 149) #[] #[.pointer (some ⟨bx,0,none⟩)]] (tB bb s v r q w::tMo om s.members (tX bx bb::L)) h K':=by
    intro K' hK'
    have hcm:=counting_any (K:=K') (cl:=149) (cap:=[.pointer (some ⟨bx,0,none⟩)]) (bb:=bb) (om:=om) (w:=w) (n:=n) (γ:=Nat) (fun j x=>x=j∧j≤n) (fun k=>fnSk s r k) (fun _=>v) (fun k=>fnR s r k) (fun _=>q) (fun _=>tX bx bb::L) (fun _=>h) 0 (by omega) (by rw [hn]; exact okm) ?_ nmb ?_ ?_ ?_ ?_
    · rw [e0.1,e0.2] at hcm
      exact hcm
    · rintro k x ⟨rfl,e2⟩
      exact ⟨by rw [hn]; exact hm,by rw [hn]; exact upI_len _ _ _,hbb,hbm⟩
    · rintro bm cm rfl k x d1 ⟨rfl,e2⟩ d2
      have hat:=upI_at (fnF s.par s.marks r.mode) s.members (k:=x) (by omega)
      have hat':gr zeroM (fnSk s r x).members x=gr zeroM s.members x:=hat
      have d3:cntM (gr zeroM s.members x):=by rw [← hat]; exact d2
      have hl:(fnSk s r x).members.length=s.members.length:=upI_len _ _ _
      have tk:=fnk_ti ti r (k:=x) (by omega)
      obtain ⟨t1,t2,t3,t4,t5,t6⟩:=tk.parts
      have ts:=tk.sum
      have hbl:=tk.be.bl (i:=x) (by omega)
      rw [hat'] at hbl
      obtain ⟨_,b1,b2,b3,b4⟩:=fineM_ok ti.ok.p ti.r (ti.be.m _ (gr_mem (z:=zeroM) (k:=x) (by omega))) r.mode
      obtain ⟨u1,u2,u3⟩:=fn_b ti r (k:=x) (by omega)
      have w1:0≤(fnSk s r x).treas∧(fnSk s r x).treas+fineP s.par (gr zeroM s.members x) r.mode≤18446744073709551615:=by omega
      have u4:fnTs s r x+tot ((fnSk s r x).members.map MemD.bal)=tot (s.members.map MemD.bal):=u3
      have w2:0≤(fnR s r x).burned∧(fnR s r x).burned+fineP s.par (gr zeroM s.members x) r.mode≤18446744073709551615:=by
        show 0≤r.burned+fnUs s r x∧r.burned+fnUs s r x+_≤_
        omega
      have w3:0≤(fnR s r x).fees∧(fnR s r x).fees+fineP s.par (gr zeroM s.members x) r.mode≤18446744073709551615:=by
        show 0≤r.fees+(fnTs s r x-fnUs s r x)∧r.fees+(fnTs s r x-fnUs s r x)+_≤_
        omega
      rw [← hat'] at w1 w2 w3
      refine tfnc_any (s:=fnSk s r x) (r:=fnR s r x) ti.ok.p ti.r hk0 tk.be.m x (by omega) (by omega) w1 w2 w3 (fun g=>?_) (fun g=>?_)
      · have cc:fnC s.marks x (gr zeroM s.members x):=⟨d3,g⟩
        obtain ⟨e1,e2'⟩:=fnS_yes (r:=r) (show x<s.members.length by omega) cc
        refine ⟨x+1,⟨rfl,by omega⟩,?_⟩
        rw [e1,e2',← hat']
        exact Drop.refl _ _
      · have cc : ¬ fnC s.marks x (gr zeroM s.members x) := fun cc => by
          have:getB s.marks x=false:=cc.2
          have g':getB s.marks x=true:=g
          rw [this] at g'; cases g'
        obtain ⟨e1,e2'⟩:=fnS_no (r:=r) (show x<s.members.length by omega) cc
        refine ⟨x+1,⟨rfl,by omega⟩,?_⟩
        rw [e1,e2']
        exact Drop.refl _ _
    · rintro k x d1 ⟨rfl,e2⟩ d2
      have hat:=upI_at (fnF s.par s.marks r.mode) s.members (k:=x) (by omega)
      have cc:¬ fnC s.marks x (gr zeroM s.members x):=fun cc=>d2 (by show cntM (gr zeroM (upI (fnF s.par s.marks r.mode) s.members x) x); rw [hat]; exact cc.1)
      obtain ⟨e1,e2'⟩:=fnS_no (r:=r) (show x<s.members.length by omega) cc
      refine ⟨x+1,⟨rfl,by omega⟩,?_⟩
      rw [e1,e2']
      exact Drop.refl _ _
    · exact ⟨rfl,Nat.zero_le _⟩
    · rintro k ⟨e1,e2⟩
      subst e1
      exact hK'
  refine Spec.fin (key _ ⟨_,_,Drop.perm h perm2m.symm,?_⟩)
  obtain ⟨S1,hS1⟩:∃ S1,S1=fnSk s r n:=⟨_,rfl⟩
  obtain ⟨R1,hR1⟩:∃ R1,R1=fnR s r n:=⟨_,rfl⟩
  have eS:fnS s r=burnT S1 R1.burned:=by rw [hS1,hR1,hn]; rfl
  have hrb:0≤R1.burned∧R1.burned≤18446744073709551615:=by
    rw [hR1]
    have c4:0≤tot ((fnSk s r n).members.map MemD.bal):=hen.be.bal
    have c5:fnTs s r n+tot ((fnSk s r n).members.map MemD.bal)=tot (s.members.map MemD.bal):=c3
    show 0≤r.burned+fnUs s r n∧r.burned+fnUs s r n≤_
    omega
  rw [eS,← hR1] at hk
  rw [← hS1,← hR1] at hgo
  rw [← hS1] at hen
  rw [← hS1,← hR1]
  clear eS hS1 hR1 key e0 c1 c2 c3
  have hv1:=hv
  unfold OneS at hv1
  refine xx ?_
  refine xany_cut (.tkl 0 (.tk 1 (.tk 2 (.tkl 3 (.tkl 4 (.tk 5 (.tk 6 (.tk 7 (.tkl 8 (.or true 9 (.tk 10 (.tk 11 (.tk 12 (.or true 13 (.or false 14 (.tk 15 (.fin)) (.nil)) (.nil))))) (.or true 13 (.or true 9 (.tk 10 (.tk 11 (.tk 12 (.or false 14 (.tk 15 (.fin)) (.nil))))) (.nil)) (.nil)))))))))))) (by kernel_rfl) (by kernel_rfl) [(1,.pointer (some ⟨bx,0,none⟩))] _ (γ:=Nat) (fun b2=>bx≠b2∧bb≠b2∧h b2=noC)
    (fun b2=>[(1,.pointer (some ⟨bx,0,none⟩)),(2,.pointer (some ⟨b2,0,none⟩)),(3,.int .i64 0)])
    (fun b2=>⟨b2,39,stC (burnT S1 R1.burned) v,41⟩::tX bx bb::tB bb S1 v R1 q w::tMo om S1.members L) (fun _=>h) (by simp [Ent,List.lookup,xEnv]) (Drop.refl _ _) ?_ ?_
  · repeat' first
      | with_reducible refine xpl_or ?_ ?_
      | simp -dsimp -implicitDefEqProofs (disch:=first|with_reducible assumption|omega) [go_sem]
      | (with_reducible refine xnew fun b2 n_b2 h_b2 => ?_
         simp only [Apart] at n_b2)
      | (with_reducible show xCall Tryz.prog 151 _ _ _ _
         refine sburn_any v hv hen.ok R1.burned hrb hgo ?_)
      | with_reducible refine xkp (Drop.refl _ _) ?_
      | with_reducible refine xkp (Drop.tail _ _ _) ?_
      | with_reducible refine ⟨hv1,?_⟩
      | fail
    all_goals exact ⟨b2,⟨n_b2.1,n_b2.2.1,h_b2⟩,by simp [Ent,List.lookup],Drop.refl _ _⟩
  rintro b2 ⟨n1,n2,h2⟩
  simp only [stC]
  refine xx ?_
  refine ⟨hv,?_⟩
  exact fin_tail (fin_tail (fin_here hk))
theorem tsec_any {bb bm cm bx:Nat} {s:StD} {v:SV} {r:RepD} {q:RV} {w:Int} (ok:ParOk s.par) (hr:parR s.par=true) (mo:∀ x∈s.members,MemOk x) (i:Nat) (hi:i<s.members.length) (hml:s.members.length≤900)
  (hk:K (.tuple #[]) (tB bb { s with members:=s.members.set i (settleM s.par (gr zeroM s.members i)) } v r q w::tM bm cm (s.members.set i (settleM s.par (gr zeroM s.members i)))::tX bx bb::L) h) :
  Spec Tryz.prog 165 [.int .i64 i,.pointer (some ⟨bm,i*6,none⟩),.pointer (some ⟨bx,0,none⟩)] (tB bb s v r q w::tM bm cm s.members::tX bx bb::L) h K:=by
 obtain ⟨m,hmk⟩:∃ m,m=gr zeroM s.members i:=⟨_,rfl⟩
 have hmo:MemOk m:=mo m (by rw [hmk]; exact gr_mem hi)
 have ub:=hmo.u m.bal (by simp)
 have ue:=hmo.u m.eff (by simp)
 rw [← hmk] at hk
 refine x_enterA Tryz.func165 rfl (rs:=[]) rfl rfl mixed (by kernel_rfl) rfl rfl fun ap nd=>?_
 obtain ⟨hbb,hbm,hbx,nmb,nbx,nmx⟩:=th_facts ap nd
 simp only at hbb hbm hbx nmb nbx nmx
 clear ap nd
 obtain ⟨g0,g1,g2,g3,g4,g5⟩:=memT hi
 rw [← hmk] at g0 g1
 have hi6:=flat_lt (w:=6) hi (show 3<6 by decide)
 have hsum:=memS (ms:=s.members) rfl
 refine xx ?_
 refine xanyl (.tk 0 (.tk 6 (.tk 7 (.tk 8 (.tk 9 (.tk 11 (.tk 12 (.tk 13 (.tk 14 (.tkl 1 (.tk 2 (.tk 3 (.tk 4 (.tkl 5 (.tkl 10 (.tkl 15 (.or true 16 (.tk 17 (.tk 18 (.tk 19 (.or false 20 (.fin) (.nil))))) (.nil)))))))))))))))))) (by kernel_rfl) (by kernel_rfl) _ (Drop.refl _ _) ?_
 simp -dsimp -implicitDefEqProofs (disch:=first|with_reducible assumption|omega) [go_sem,g0,g1]
 refine gnext_any s.par ok hr m.eff m.bal ue ub ?_
 first
 | refine xkp (Drop.refl _ _) ?_
 | skip
 refine xx ?_
 obtain ⟨n1,hn1⟩:∃ n1,n1=nextP s.par m.eff m.bal:=⟨_,rfl⟩
 have hw:=wholeP_ok (inc_pos hr) ok ub
 have un:0≤n1∧n1≤18446744073709551615:=by
  rw [hn1]; unfold nextP; split
  ·exact hw
  ·exact ue
 obtain ⟨m1,hm1⟩:∃ m1:MemD,m1={ m with eff:=n1 }:=⟨_,rfl⟩
 have hset1:(s.members.flatMap memC).set (i*6+1) (.int .u64 n1)=(s.members.set i m1).flatMap memC:=flatG_set memC_len zeroM s.members hi (by decide) (by rw [← hmk,hm1]; rfl)
 rw [← hn1,hset1]
 refine ⟨by omega,?_⟩
 have hk1':i<(s.members.set i m1).length:=by rw [List.length_set]; exact hi
 have hg1:gr zeroM (s.members.set i m1) i=m1:=by rw [gr_lt hk1',List.getElem_set_self]
 have e1:m1.bal=m.bal:=by rw [hm1]
 have r0:∀ (K:Value→Prop) (t:Tok K),xNth ((s.members.set i m1).flatMap memC) (i*6) K t=K (.int .u64 m.bal):=fun K t=>xNth_rec memC_len zeroM _ (m:=0) hk1' (by decide) (by rw [hg1,← e1]; rfl) K t
 have r1:∀ (K:Value→Prop) (t:Tok K),xNth ((s.members.set i m1).flatMap memC) (i*6+1) K t=K (.int .u64 n1):=fun K t=>xNth_rec memC_len zeroM _ (m:=1) hk1' (by decide) (by rw [hg1,hm1]; rfl) K t
 refine xdraw (by kernel_rfl) rfl ?_
 simp -dsimp -implicitDefEqProofs (disch:=first|with_reducible assumption|omega) [go_sem,r0,r1]
 refine xdcall _ (gfits_any s.par ok n1 m.bal un ub ⟨rfl,rfl,rfl⟩) ?_
 rw [hr,Bool.true_and]
 cases hgf:gfitsP s.par n1 m.bal with
 | true =>
  have es:settleM s.par m=m1:=by rw [settleM,← hn1,hgf,if_pos rfl,hm1]
  rw [es] at hk
  simp -dsimp -implicitDefEqProofs (disch:=first|with_reducible assumption|omega) [go_sem,r0,r1]
  exact fin_here hk
 | false =>
  have es:settleM s.par m={ m with eff:=wholeP s.par m.bal }:=by rw [settleM,← hn1,hgf]; rfl
  rw [es] at hk
  simp -dsimp -implicitDefEqProofs (disch:=first|with_reducible assumption|omega) [go_sem,r0,r1]
  refine xanyl (.tk 0 (.tk 6 (.tk 7 (.tk 8 (.tk 9 (.tkl 1 (.tk 2 (.tk 3 (.tk 4 (.tkl 5 (.tkl 10 (.or true 11 (.tk 12 (.tk 13 (.tk 14 (.or false 15 (.fin) (.nil))))) (.nil))))))))))))) (by kernel_rfl) (by kernel_rfl) _ (Drop.refl _ _) ?_
  simp -dsimp -implicitDefEqProofs (disch:=first|with_reducible assumption|omega) [go_sem,r0,r1]
  refine gwhole_any s.par ok m.bal ub ?_
  rw [hr,if_pos rfl]
  first
  | refine xkp (Drop.refl _ _) ?_
  | skip
  refine xx ?_
  have hset2:((s.members.set i m1).flatMap memC).set (i*6+1) (.int .u64 (wholeP s.par m.bal))=(s.members.set i { m with eff:=wholeP s.par m.bal }).flatMap memC:=fset hi (by decide) (by rw [hm1]; rfl)
  have hsum2:(((s.members.map fun a=>(memC a).length)).set i (memC m1).length).sum=s.members.length*6:=by
   have:((s.members.set i m1).map fun a=>(memC a).length).sum=(s.members.set i m1).length*6:=by rw [← List.length_flatMap,flatG_len memC_len]
   rwa [List.map_set,List.length_set] at this
  rw [hset2]
  exact ⟨by omega,fin_here hk⟩
theorem seS_yes {s:StD} {k:Nat} (hk:k<s.members.length) (c:cntM (gr zeroM s.members k)):seSk s (k+1)={ seSk s k with members:=(seSk s k).members.set k (settleM s.par (gr zeroM (seSk s k).members k)) }:=by
 have hat:=upN_at (setF s.par) s.members hk
 have u1:upN (setF s.par) s.members (k+1)=(upN (setF s.par) s.members k).set k (settleM s.par (gr zeroM (upN (setF s.par) s.members k) k)):=by
  rw [upN,hat,setF,if_pos c]
 show ({ s with members:=upN (setF s.par) s.members (k+1) }:StD)={ s with members:=(upN (setF s.par) s.members k).set k (settleM s.par (gr zeroM (upN (setF s.par) s.members k) k)) }
 rw [u1]
theorem seS_no {s:StD} {k:Nat} (hk:k<s.members.length) (c:¬ cntM (gr zeroM s.members k)):seSk s (k+1)=seSk s k:=by
 unfold seSk
 rw [upN_same (setF s.par) s.members hk (show setF s.par (gr zeroM s.members k)=gr zeroM s.members k from if_neg c)]
theorem tsettle_any {bb D:Nat} {om:Option (Nat×Nat)} {s:StD} {v:SV} {r:RepD} {q:RV} {w:Int} (ti:TkI s D) (hk0:Ints h .u8 v.k s.marks) (hr0:∃ ql,Strs h v.r ql∧xsL ql=s.ring) (hrl:s.ring.length≤1000) (hrb:∀ b∈s.ring,b.length≤1000) (hml2:s.marks.length≤1000) (hm:v.m=ovs om s.members.length) (okm:okO om s.members.length)
  (hk:∀ h' kv rv,PH.le h h'→Ints h' .u8 kv (List.replicate 16 0)→(∃ ql,Strs h' rv ql∧xsL ql=turnP s.ring s.marks)→K (.tuple #[]) (tB bb (seS s) { v with k:=kv,r:=rv } r q w::tMo om (seS s).members L) h') :
  Spec Tryz.prog 79 [.pointer (some ⟨bb,0,none⟩)] (tB bb s v r q w::tMo om s.members L) h K:=by
 obtain ⟨vp,vm,ve,vx,vo,vd,vt,vk,vr⟩:=v
 simp only at hm hk0 hr0 hk ⊢
 subst hm
 have hml:=ti.ml
 have hep:=ti.ep
 obtain ⟨n,hn⟩:∃ n,n=s.members.length:=⟨_,rfl⟩
 rw [← hn] at hk ⊢
 obtain ⟨ql,q1,q2⟩:=hr0
 have hql:ql.length=s.ring.length:=by rw [← q2,xsL_len]
 refine x_enterA Tryz.func79 rfl (rs:=[]) rfl rfl mixed (by kernel_rfl) rfl rfl fun ap nd=>?_
 have hbb:h bb=noC:=ap.1
 have hbm:apO om [] h:=ap_here ap.2
 have nmb:apB om bb:=apart_here nd.1
 clear ap nd
 refine xx ?_
 refine xnew fun bx n_bx h_bx=>?_
 try simp only [Apart] at n_bx
 have nbx:=n_bx.1
 have nmx:apB om bx:=apart_here n_bx.2
 refine xx ?_
 refine Spec.fin (Spec.weaken (Drop.perm h perm2m) ?_)
 refine counting_any (cl:=165) (cap:=[.pointer (some ⟨bx,0,none⟩)]) (bb:=bb) (om:=om) (w:=w) (n:=n) (γ:=Nat) (fun j x=>x=j∧j≤n) (fun k=>seSk s k) (fun _=>⟨vp,ovs om n,ve,vx,vo,vd,vt,vk,vr⟩) (fun _=>r) (fun _=>q) (fun _=>tX bx bb::L) (fun _=>h) 0 (by omega) (by rw [hn]; exact okm) ?_ nmb ?_ ?_ ?_ ?_
 ·rintro k x ⟨rfl,e2⟩
  exact ⟨rfl,by rw [hn]; exact upN_len _ _ _,hbb,hbm⟩
 ·rintro bm cm rfl k x d1 ⟨rfl,e2⟩ d2
  have hat:=upN_at (setF s.par) s.members (k:=x) (by omega)
  have d3:cntM (gr zeroM s.members x):=by rw [← hat]; exact d2
  have hl:(seSk s x).members.length=s.members.length:=upN_len _ _ _
  refine tsec_any (s:=seSk s x) ti.ok.p ti.r (upN_ok MemOk (fun m hm=>setF_ok ti.ok.p ti.r hm) ti.be.m x (by omega)) x (by omega) (by omega) ⟨x+1,⟨rfl,by omega⟩,?_⟩
  rw [seS_yes (by omega) d3]
  exact Drop.refl _ _
 ·rintro k x d1 ⟨rfl,e2⟩ d2
  have hat:=upN_at (setF s.par) s.members (k:=x) (by omega)
  have d3:¬ cntM (gr zeroM s.members x):=fun d=>d2 (by show cntM (gr zeroM (upN (setF s.par) s.members x) x); rw [hat]; exact d)
  refine ⟨x+1,⟨rfl,by omega⟩,?_⟩
  rw [seS_no (by omega) d3]
  exact Drop.refl _ _
 ·exact ⟨rfl,Nat.zero_le _⟩
 rintro k ⟨e1,e2⟩
 subst e1
 refine ⟨_,_,Drop.perm h perm2m.symm,?_⟩
 have eS:seS s={ seSk s k with ring:=turnP s.ring s.marks,marks:=List.replicate 16 0,ep:=s.ep+1 }:=by rw [hn]; rfl
 rw [eS] at hk
 obtain ⟨S1,hS1⟩:∃ S1,S1=(seSk s k).members:=⟨_,rfl⟩
 have eK:seSk s k={ s with members:=S1 }:=by rw [hS1]; rfl
 rw [eK] at hk ⊢
 simp only at hk ⊢
 clear eS eK
 refine xx ?_
 refine xanyl (.tkl 0 (.tkl 1 (.tk 2 (.tk 3 (.tk 4 (.tkl 5 (.tkl 6 (.tk 7 (.tk 8 (.tk 9 (.tkl 10 (.or true 11 (.tk 12 (.tk 13 (.tk 14 (.or false 15 (.fin) (.nil))))) (.nil))))))))))))) (by kernel_rfl) (by kernel_rfl) _ (Drop.refl _ _) ?_
 refine xx ?_
 refine Spec.ap (turn_any (l:=ql) (marks:=s.marks) _ _ q1 hk0 (by omega) (by rw [q2]; exact hrb) hml2 fun h1 rv q3 le1 i1 j1 ap=>?_)
 have hbx1:h1 bx=noC:=ap.1
 have hbb1:h1 bb=noC:=ap.2.1
 clear ap
 have i10:=i1
 obtain ⟨ra,rc,rfl,_⟩:=i1.open
 first
 | refine xkp (Drop.forget le1) ?_
 | skip
 refine xx ?_
 refine xanyl (.tkl 0 (.or true 1 (.tk 2 (.tk 3 (.tk 4 (.or false 5 (.fin) (.nil))))) (.nil))) (by kernel_rfl) (by kernel_rfl) _ (Drop.refl _ _) ?_
 refine xx ?_
 refine Spec.ap (empty_any fun h2 kv le2 i2 ap=>?_)
 have hbx2:h2 bx=noC:=ap.1
 have hbb2:h2 bb=noC:=ap.2.1
 clear ap
 have i20:=i2
 obtain ⟨ka,kc,rfl,_⟩:=i2.open
 first
 | refine xkp (Drop.forget le2) ?_
 | skip
 refine xx ?_
 rw [q2] at j1
 exact fin_tail (fin_here (hk h2 _ _ (le1.trans le2) i20 ⟨q3,i10.up le2,j1⟩))
theorem xact_fin {P:Program} {m:Sem Value} (hx:xAct P m L h (fun v L' h'=>fin K v L' h') ⟨⟩):xAct P m L h K ⟨⟩:=fun W hg=>by
 obtain ⟨r,L',h',W',hr,⟨L2,h2,hd,hk⟩,st⟩:=hx W hg
 obtain ⟨g,f⟩:=hd W' st.1
 exact ⟨r,L2,h2,W',hr,hk,g,st.2.1,fun e he=>by
  obtain ⟨e',he',hb⟩:=List.mem_map.1 (f e he)
  rw [← hb]; exact st.2.2 e' he'⟩
theorem two_perm6 {e sz e2 sz2:Nat} {o o2:Option (Nat×Nat)} {xs ys:List Value} {a b c d x y:Blk} {L:Own}:(a::b::c::d::x::y::oent e sz o xs (oent e2 sz2 o2 ys L)).Perm (oent e2 sz2 o2 ys (a::b::c::d::x::y::oent e sz o xs L)):=two_perm [a,b,c,d,x,y]
theorem two_perm7 {e sz e2 sz2:Nat} {o o2:Option (Nat×Nat)} {xs ys:List Value} {a b c d x y z:Blk} {L:Own}:(a::b::c::d::x::y::z::oent e sz o xs (oent e2 sz2 o2 ys L)).Perm (oent e2 sz2 o2 ys (a::b::c::d::x::y::z::oent e sz o xs L)):=two_perm [a,b,c,d,x,y,z]
abbrev whB (b5:Nat) (o:Option (Nat×Nat)) (n:Nat):Blk:=⟨b5,32,[ovs o n],1⟩
abbrev stB6 (b6:Nat) (o:Option (Nat×Nat)) (n:Nat):Blk:=⟨b6,231,[ovs o n],1⟩
theorem drop5 {a b c d e:Blk} {L:Own} {h:PH}:Drop (a::b::c::d::e::L) h [a,b,c,d,e] h:=drop_left [a,b,c,d,e] L h
theorem drop5a {x a b c d e:Blk} {L:Own} {h:PH}:Drop (x::a::b::c::d::e::L) h [a,b,c,d,e] h:=(Drop.tail _ _ _).trans drop5
theorem drop5b {x y a b c d e:Blk} {L:Own} {h:PH}:Drop (x::y::a::b::c::d::e::L) h [a,b,c,d,e] h:=(Drop.tail _ _ _).trans drop5a
theorem sdC_one (m:MemD):∀ u∈sdC m,u.oneCell'=true:=fun u hu=>by
 simp only [sdC,List.mem_cons,List.not_mem_nil,or_false] at hu
 rcases hu with rfl | rfl | rfl | rfl<;>rfl
theorem tmtc_any {bb bm cm bx b5 b6 : Nat} {ow ol : Option (Nat × Nat)} {s : StD} {v : SV} {r : RepD} {q : RV} {w : Int} {N : Nat} {W Z : List Value} (hk0 : Ints h .u8 v.k s.marks) (i : Nat) (hi : i < s.members.length) (hml : s.members.length ≤ 900)
    (hN:N≤900) (okw:okO ow N) (hW:W.length=N) (okl:okO ol N) (hZ:Z.length=N*4)
    (hk:getB s.marks i=true→∀ ow' ol',okO ow' (N+1)→okO ol' (N+1)→K (.tuple #[]) (tB bb s v r q w::tM bm cm s.members::tX bx bb::whB b5 ow' (N+1)::stB6 b6 ol' (N+1)::oent 3 1 ow' (W++[.int .i64 i]) (oent 71 4 ol' (Z++sdC (gr zeroM s.members i)) L)) h)
    (hno:getB s.marks i=false→K (.tuple #[]) (tB bb s v r q w::tM bm cm s.members::tX bx bb::whB b5 ow N::stB6 b6 ol N::oent 3 1 ow W (oent 71 4 ol Z L)) h) :
    Spec Tryz.prog 145 [.int .i64 i,.pointer (some ⟨bm,i*6,none⟩),.pointer (some ⟨bx,0,none⟩),.pointer (some ⟨b5,0,none⟩),.pointer (some ⟨b6,0,none⟩)] (tB bb s v r q w::tM bm cm s.members::tX bx bb::whB b5 ow N::stB6 b6 ol N::oent 3 1 ow W (oent 71 4 ol Z L)) h K:=by
  refine x_enterA Tryz.func145 rfl (rs:=[]) rfl rfl mixed (by kernel_rfl) rfl rfl fun ap nd=>?_
  have hbb:h bb=noC:=ap.1
  have hbm:h bm=noC:=ap.2.1
  have hbx:h bx=noC:=ap.2.2.1
  have hb5:h b5=noC:=ap.2.2.2.1
  have hb6:h b6=noC:=ap.2.2.2.2.1
  have ebm:NeB bb bm:=Ne.symm nd.1.1
  have ebx:NeB bb bx:=Ne.symm nd.1.2.1
  have eb5:NeB bb b5:=Ne.symm nd.1.2.2.1
  have eb6:NeB bb b6:=Ne.symm nd.1.2.2.2.1
  have emx:NeB bm bx:=Ne.symm nd.2.1.1
  have em5:NeB bm b5:=Ne.symm nd.2.1.2.1
  have em6:NeB bm b6:=Ne.symm nd.2.1.2.2.1
  have ex5:NeB bx b5:=Ne.symm nd.2.2.1.1
  have ex6:NeB bx b6:=Ne.symm nd.2.2.1.2.1
  have e56:NeB b5 b6:=Ne.symm nd.2.2.2.1.1
  clear ap nd
  obtain ⟨g0,g1,g2,g3,g4,g5⟩:=memT hi
  have hi6:=flat_lt (w:=6) hi (show 3<6 by decide)
  have hsum:=memS (ms:=s.members) rfl
  refine xx ?_
  refine tthere_any hk0 i (by omega) ?_
  cases c:getB s.marks i with
  | false =>
    have hno:=hno c
    refine xx ?_
    exact fin_here hno
  | true =>
  have hk:=hk c
  clear hno
  refine xx ?_
  obtain ⟨m,hm⟩:∃ m,m=gr zeroM s.members i:=⟨_,rfl⟩
  rw [← hm] at hk g0 g1 g2 g3
  simp only [tB,tM] at hk ⊢
  obtain ⟨C,hC⟩:∃ C,C=tC s v r q w:=⟨_,rfl⟩
  rw [← hC] at hk
  first
  | rw [← hC]
  | (simp only [tC] at hC
     rw [← hC])
  clear hC
  refine xany_cut (.tk 1 (.tk 5 (.tk 6 (.tk 7 (.tkl 0 (.or true 2 (.or true 3 (.or true 4 (.or true 8 (.or true 9 (.or true 10 (.or false 11 (.or false 12 (.fin) (.nil)) (.nil)) (.nil)) (.nil)) (.nil)) (.or true 8 (.or true 4 (.or true 9 (.or true 10 (.or false 11 (.or false 12 (.fin) (.nil)) (.nil)) (.nil)) (.nil)) (.or true 9 (.or true 4 (.or true 10 (.or false 11 (.or false 12 (.fin) (.nil)) (.nil)) (.nil)) (.nil)) (.nil))) (.nil))) (.or true 4 (.or true 3 (.or true 8 (.or true 9 (.or true 10 (.or false 11 (.or false 12 (.fin) (.nil)) (.nil)) (.nil)) (.nil)) (.nil)) (.or true 8 (.or true 3 (.or true 9 (.or true 10 (.or false 11 (.or false 12 (.fin) (.nil)) (.nil)) (.nil)) (.nil)) (.or true 9 (.or true 3 (.or true 10 (.or false 11 (.or false 12 (.fin) (.nil)) (.nil)) (.nil)) (.nil)) (.nil))) (.nil))) (.or true 8 (.or true 3 (.or true 4 (.or true 9 (.or true 10 (.or false 11 (.or false 12 (.fin) (.nil)) (.nil)) (.nil)) (.nil)) (.or true 9 (.or true 4 (.or true 10 (.or false 11 (.or false 12 (.fin) (.nil)) (.nil)) (.nil)) (.nil)) (.nil))) (.or true 4 (.or true 3 (.or true 9 (.or true 10 (.or false 11 (.or false 12 (.fin) (.nil)) (.nil)) (.nil)) (.nil)) (.or true 9 (.or true 3 (.or true 10 (.or false 11 (.or false 12 (.fin) (.nil)) (.nil)) (.nil)) (.nil)) (.nil))) (.or true 9 (.or true 3 (.or true 4 (.or true 10 (.or false 11 (.or false 12 (.fin) (.nil)) (.nil)) (.nil)) (.nil)) (.or true 4 (.or true 3 (.or true 10 (.or false 11 (.or false 12 (.fin) (.nil)) (.nil)) (.nil)) (.nil)) (.nil))) (.nil)))) (.nil)))) (.or true 4 (.or true 2 (.or true 3 (.or true 8 (.or true 9 (.or true 10 (.or false 11 (.or false 12 (.fin) (.nil)) (.nil)) (.nil)) (.nil)) (.nil)) (.or true 8 (.or true 3 (.or true 9 (.or true 10 (.or false 11 (.or false 12 (.fin) (.nil)) (.nil)) (.nil)) (.nil)) (.or true 9 (.or true 3 (.or true 10 (.or false 11 (.or false 12 (.fin) (.nil)) (.nil)) (.nil)) (.nil)) (.nil))) (.nil))) (.or true 8 (.or true 2 (.or true 3 (.or true 9 (.or true 10 (.or false 11 (.or false 12 (.fin) (.nil)) (.nil)) (.nil)) (.nil)) (.or true 9 (.or true 3 (.or true 10 (.or false 11 (.or false 12 (.fin) (.nil)) (.nil)) (.nil)) (.nil)) (.nil))) (.or true 9 (.or true 2 (.or true 3 (.or true 10 (.or false 11 (.or false 12 (.fin) (.nil)) (.nil)) (.nil)) (.nil)) (.nil)) (.nil))) (.nil))) (.or true 8 (.or true 2 (.or true 3 (.or true 4 (.or true 9 (.or true 10 (.or false 11 (.or false 12 (.fin) (.nil)) (.nil)) (.nil)) (.nil)) (.or true 9 (.or true 4 (.or true 10 (.or false 11 (.or false 12 (.fin) (.nil)) (.nil)) (.nil)) (.nil)) (.nil))) (.or true 4 (.or true 3 (.or true 9 (.or true 10 (.or false 11 (.or false 12 (.fin) (.nil)) (.nil)) (.nil)) (.nil)) (.or true 9 (.or true 3 (.or true 10 (.or false 11 (.or false 12 (.fin) (.nil)) (.nil)) (.nil)) (.nil)) (.nil))) (.or true 9 (.or true 3 (.or true 4 (.or true 10 (.or false 11 (.or false 12 (.fin) (.nil)) (.nil)) (.nil)) (.nil)) (.or true 4 (.or true 3 (.or true 10 (.or false 11 (.or false 12 (.fin) (.nil)) (.nil)) (.nil)) (.nil)) (.nil))) (.nil)))) (.or true 4 (.or true 2 (.or true 3 (.or true 9 (.or true 10 (.or false 11 (.or false 12 (.fin) (.nil)) (.nil)) (.nil)) (.nil)) (.or true 9 (.or true 3 (.or true 10 (.or false 11 (.or false 12 (.fin) (.nil)) (.nil)) (.nil)) (.nil)) (.nil))) (.or true 9 (.or true 2 (.or true 3 (.or true 10 (.or false 11 (.or false 12 (.fin) (.nil)) (.nil)) (.nil)) (.nil)) (.nil)) (.nil))) (.or true 9 (.or true 2 (.or true 3 (.or true 4 (.or true 10 (.or false 11 (.or false 12 (.fin) (.nil)) (.nil)) (.nil)) (.nil)) (.or true 4 (.or true 3 (.or true 10 (.or false 11 (.or false 12 (.fin) (.nil)) (.nil)) (.nil)) (.nil)) (.nil))) (.or true 4 (.or true 2 (.or true 3 (.or true 10 (.or false 11 (.or false 12 (.fin) (.nil)) (.nil)) (.nil)) (.nil)) (.nil)) (.nil))) (.nil)))) (.nil))))))))) (by kernel_rfl) (by kernel_rfl) [(0,.int .i64 i),(1,.pointer (some ⟨bm,i*6,none⟩)),(2,.pointer (some ⟨bx,0,none⟩)),(3,.pointer (some ⟨b5,0,none⟩)),(4,.pointer (some ⟨b6,0,none⟩))] [⟨bb,148,C,56⟩,⟨bm,73,s.members.flatMap memC,cm*6⟩,tX bx bb,whB b5 ow N,stB6 b6 ol N] (γ:=Option (Nat×Nat)×Option (Nat×Nat)) (fun x=>okO x.1 (N+1)∧okO x.2 (N+1)) (fun _=>[])
    (fun x=>⟨bb,148,C,56⟩::⟨bm,73,s.members.flatMap memC,cm*6⟩::tX bx bb::whB b5 x.1 (N+1)::stB6 b6 x.2 (N+1)::oent 3 1 x.1 (W++[.int .i64 i]) (oent 71 4 x.2 (Z++sdC m) L)) (fun _=>h) (by simp [Ent,List.lookup,xEnv]) (drop_left [_,_,_,_,_] _ _) ?_ ?_
  · repeat' first
      | with_reducible refine xpl_or ?_ ?_
      | simp -dsimp -implicitDefEqProofs (disch:=first|with_reducible assumption|omega) [go_sem,g0,g1,g2,g3]
      | (with_reducible show xNew _ _ 3 _ _ _
         refine xnew fun b12 n_b12 h_b12=>?_
         simp only [Apart] at n_b12
         first
         | (have e12m : NeB b12 bm := Ne.symm n_b12.2.1
            have e125:NeB b12 b5:=Ne.symm n_b12.2.2.2.1
            have e126:NeB b12 b6:=Ne.symm n_b12.2.2.2.2.1)
         | (have e12m : NeB b12 bm := Ne.symm n_b12.2.2.1
            have e125:NeB b12 b5:=Ne.symm n_b12.2.2.2.2.1
            have e126:NeB b12 b6:=Ne.symm n_b12.2.2.2.2.2.1)
         clear n_b12)
      | (with_reducible show xNew _ _ 71 _ _ _
         refine xnew fun b19 n_b19 h_b19=>?_
         simp only [Apart] at n_b19
         first
         | (have e19m : NeB b19 bm := Ne.symm n_b19.2.1
            have e195:NeB b19 b5:=Ne.symm n_b19.2.2.2.1
            have e196:NeB b19 b6:=Ne.symm n_b19.2.2.2.2.1)
         | (have e19m : NeB b19 bm := Ne.symm n_b19.2.2.1
            have e195:NeB b19 b5:=Ne.symm n_b19.2.2.2.2.1
            have e196:NeB b19 b6:=Ne.symm n_b19.2.2.2.2.2.1)
         clear n_b19)
      | (with_reducible show xBuiltin _ _ #[32,_] _ _ _ _ _
         first
         | refine xappend (t:=32) (e:=3) (sz:=1) (bytes:=8) (z:=[.int .i64 0]) (by kernel_rfl) tI_3 rfl rfl rfl rfl (by decide) [_,_,_,_,_,_] _ ow N W okw (by omega) (Src.own (b:=b12) (t:=3) (cap:=1) (by first | exact List.mem_cons_self | exact List.mem_cons_of_mem _ List.mem_cons_self)) (m:=1) (news:=[.int .i64 i]) rfl (fun u hu=>by simp at hu; subst hu; rfl) (by simp [maxLen]; omega) (by omega) fun ow1 jw1 jw2 jw3=>?_
         | refine xappend (t:=32) (e:=3) (sz:=1) (bytes:=8) (z:=[.int .i64 0]) (by kernel_rfl) tI_3 rfl rfl rfl rfl (by decide) [_,_,_,_,_,_,_] _ ow N W okw (by omega) (Src.own (b:=b12) (t:=3) (cap:=1) (by first | exact List.mem_cons_self | exact List.mem_cons_of_mem _ List.mem_cons_self)) (m:=1) (news:=[.int .i64 i]) rfl (fun u hu=>by simp at hu; subst hu; rfl) (by simp [maxLen]; omega) (by omega) fun ow1 jw1 jw2 jw3=>?_
         simp only [List.cons_append,List.nil_append])
      | (with_reducible show xBuiltin _ _ #[231,_] _ _ _ _ _
         first
         | refine xact_fin (xact_weaken (Drop.perm _ two_perm7) (xappend (t:=231) (e:=71) (sz:=4) (bytes:=32) (by kernel_rfl) tI_71 rfl rfl rfl rfl (by decide) [] _ ol N Z okl hZ (Src.own (b:=b19) (t:=71) (cap:=4) (mem_oentU (by first | exact List.mem_cons_self | exact List.mem_cons_of_mem _ List.mem_cons_self))) (m:=1) (news:=sdC m) rfl (sdC_one m) (by simp [maxLen]; omega) (by omega) fun ol1 jl1 jl2 jl3=>⟨_,_,Drop.perm _ two_perm7.symm,?_⟩))
         | refine xact_fin (xact_weaken (Drop.perm _ two_perm6) (xappend (t:=231) (e:=71) (sz:=4) (bytes:=32) (by kernel_rfl) tI_71 rfl rfl rfl rfl (by decide) [] _ ol N Z okl hZ (Src.own (b:=b19) (t:=71) (cap:=4) (mem_oentU (by first | exact List.mem_cons_self | exact List.mem_cons_of_mem _ List.mem_cons_self))) (m:=1) (news:=sdC m) rfl (sdC_one m) (by simp [maxLen]; omega) (by omega) fun ol1 jl1 jl2 jl3=>⟨_,_,Drop.perm _ two_perm6.symm,?_⟩)))
      | with_reducible refine xkp drop5 ?_
      | with_reducible refine xkp drop5a ?_
      | with_reducible refine xkp drop5b ?_
      | fail
    all_goals exact ⟨ow1,ol1,⟨jw1,jl1⟩,by simp [Ent],(Drop.tail _ _ _).trans (Drop.tail _ _ _)⟩
  rintro ⟨ow1,ol1⟩ ⟨jw1,jl1⟩
  simp only at jw1 jl1 ⊢
  refine xx ?_
  exact fin_here (hk ow1 ol1 jw1 jl1)
theorem dropG {e0 s0 e sz e2 sz2:Nat} {o0 o o2:Option (Nat×Nat)} {X0 xs ys:List Value} {a c d x y:Blk} {L:Own} {h:PH} (h1:e≠4294967295) (h2:e2≠4294967295) :
  Drop (a::oent e0 s0 o0 X0 (c::d::x::oent e sz o xs (oent e2 sz2 o2 ys (y::L)))) h (a::c::d::x::oent e0 s0 o0 X0 L) (pubO (pubO h o xs) o2 ys):=by
 have q1:∀ {e sz:Nat} {o:Option (Nat×Nat)} {xs:List Value} {R:Own},(a::oent e0 s0 o0 X0 (c::d::x::oent e sz o xs R)).Perm (oent e sz o xs (a::oent e0 s0 o0 X0 (c::d::x::R))):=fun {e sz o xs R} =>
  (List.Perm.cons _ ((oent_congr o0 X0 (oent_perm_app [c,d,x])).trans (oent_swap o0 o X0 xs _))).trans oent_perm
 have q2:(a::oent e0 s0 o0 X0 (c::d::x::y::L)).Perm (y::a::c::d::x::oent e0 s0 o0 X0 L):=by
  have r1:(oent e0 s0 o0 X0 (c::d::x::y::L)).Perm (c::d::x::y::oent e0 s0 o0 X0 L):=(oent_perm_app [c,d,x,y]).symm
  refine (List.Perm.cons _ r1).trans ?_
  exact List.perm_middle (l₁:=[a,c,d,x])
 exact (Drop.perm h q1).trans ((pub_drop_o o xs _ h h1).trans ((Drop.perm _ q1).trans ((pub_drop_o o2 ys _ _ h2).trans ((Drop.perm _ q2).trans (Drop.tail _ _ _)))))
theorem ap_G {e0 s0 e sz e2 sz2:Nat} {o0 o o2:Option (Nat×Nat)} {X0 xs ys:List Value} {a c d x y:Blk} {L:Own} {h:PH} (ap:Ap (a::oent e0 s0 o0 X0 (c::d::x::oent e sz o xs (oent e2 sz2 o2 ys (y::L)))) h) (nd:Nd (a::oent e0 s0 o0 X0 (c::d::x::oent e sz o xs (oent e2 sz2 o2 ys (y::L))))):apO o [] h∧apO o2 [] (pubO h o xs):=by
 have a1:Ap (oent e sz o xs (oent e2 sz2 o2 ys (y::L))) h:=(Ap.oent ap.2).2.2.2
 have n1:Nd (oent e sz o xs (oent e2 sz2 o2 ys (y::L))):=by
  have n0:Nd (c::d::x::oent e sz o xs (oent e2 sz2 o2 ys (y::L))):=by
   have:=nd.2
   cases o0 with
   | none=>exact this
   | some p=>exact this.2
  exact n0.2.2.2
 have h2:apO o2 [] h:=ap_here (Ap.oent a1)
 refine ⟨ap_here a1,?_⟩
 cases o2 with
 | none=>trivial
 | some p2 =>
  refine ⟨trivial,?_⟩
  cases o with
  | none=>exact h2.2
  | some p=>exact pubO_noC (o:=some p) (Ne.symm n1.1.1) h2.2
theorem mtL_succ {s:StD} {k:Nat}:mtL s (k+1)=if cntB (gr zeroM s.members k)&&getB s.marks k then mtL s k++[gr zeroM s.members k] else mtL s k:=by
 unfold mtL
 rw [thI_succ]
 split
 ·rw [List.map_append]; rfl
 ·rfl
def whoT (s:StD) (k:Nat):List Int:=(thI s.members s.marks k).map fun i:Nat=>(i:Int)
theorem whoT_succ {s:StD} {k:Nat}:whoT s (k+1)=if cntB (gr zeroM s.members k)&&getB s.marks k then whoT s k++[(k:Int)] else whoT s k:=by
 unfold whoT
 rw [thI_succ]
 split
 ·rw [List.map_append]; rfl
 ·rfl
theorem whoT_len (s:StD) (k:Nat):(whoT s k).length=(mtL s k).length∧(mtL s k).length≤k∧(mtL s k).length=(thI s.members s.marks k).length:=by
 have:=thI_len s.members s.marks k
 unfold whoT mtL
 rw [List.length_map,List.length_map]
 exact ⟨rfl,this,rfl⟩
theorem tgather_any {bb bx b5 b6 D:Nat} {om:Option (Nat×Nat)} {y:Blk} {s:StD} {v:SV} {r:RepD} {q:RV} {w:Int} (ti:TkI s D) (hk0:Ints h .u8 v.k s.marks) (hm:v.m=ovs om s.members.length) (okm:okO om s.members.length) (hbb:h bb=noC) (hbm:apO om [] h) (nmb:apB om bb)
  (hk:∀ ow ol,okO ow (mtW s).length→okO ol (mtW s).length→K (.tuple #[]) (tB bb s v r q w::tMo om s.members (tX bx bb::whB b5 ow (mtW s).length::stB6 b6 ol (mtW s).length::oent 3 1 ow ((whoT s s.members.length).map (.int .i64)) (oent 71 4 ol ((mtL s s.members.length).flatMap sdC) (y::L)))) h) :
  Spec Tryz.prog 139 [.pointer (some ⟨bb,0,none⟩),.func (.func 145) #[] #[.pointer (some ⟨bx,0,none⟩),.pointer (some ⟨b5,0,none⟩),.pointer (some ⟨b6,0,none⟩)]]
   (tB bb s v r q w::tMo om s.members (tX bx bb::whB b5 none 0::stB6 b6 none 0::y::L)) h K:=by
 have hml:=ti.ml
 obtain ⟨n,hn⟩:∃ n,n=s.members.length:=⟨_,rfl⟩
 have eW:(mtW s).length=(mtL s n).length:=by rw [(whoT_len s n).2.2,hn]; rfl
 rw [← hn,eW] at hk
 refine counting_any (cl:=145) (cap:=[.pointer (some ⟨bx,0,none⟩),.pointer (some ⟨b5,0,none⟩),.pointer (some ⟨b6,0,none⟩)]) (bb:=bb) (om:=om) (w:=w) (n:=n) (γ:=Nat×Option (Nat×Nat)×Option (Nat×Nat)) (fun j x=>x.1=j∧j≤n∧okO x.2.1 (mtL s x.1).length∧okO x.2.2 (mtL s x.1).length) (fun _=>s) (fun _=>v) (fun _=>r) (fun _=>q)
  (fun x=>tX bx bb::whB b5 x.2.1 (mtL s x.1).length::stB6 b6 x.2.2 (mtL s x.1).length::oent 3 1 x.2.1 ((whoT s x.1).map (.int .i64)) (oent 71 4 x.2.2 ((mtL s x.1).flatMap sdC) (y::L))) (fun _=>h) (0,none,none) (by omega) (by rw [hn]; exact okm) ?_ nmb ?_ ?_ ?_ ?_
 ·rintro k x ⟨e1,e2,e3,e4⟩
  exact ⟨by rw [hn]; exact hm,hn.symm,hbb,hbm⟩
 ·rintro bm cm rfl k ⟨x,ow,ol⟩ d1 ⟨rfl,e2,e3,e4⟩ d2
  simp only at d1 e2 e3 e4 d2 ⊢
  obtain ⟨l1,l2,l3⟩:=whoT_len s x
  have hc:cntB (gr zeroM s.members x)=true:=by simpa [cntB] using d2
  refine tmtc_any (W:=(whoT s x).map (.int .i64)) (Z:=(mtL s x).flatMap sdC) hk0 x (by omega) (by omega) (by omega) e3 (by rw [List.length_map,l1]) e4 (flatG_len sdC_len _) (fun g ow1 ol1 j1 j2=>?_) (fun g=>?_)
  ·have s1:=mtL_succ (s:=s) (k:=x)
   have s2:=whoT_succ (s:=s) (k:=x)
   rw [hc,g,if_pos (by decide)] at s1 s2
   have s3:(mtL s (x+1)).length=(mtL s x).length+1:=by rw [s1,List.length_append]; rfl
   refine ⟨(x+1,ow1,ol1),⟨rfl,by omega,by rw [s3]; exact j1,by rw [s3]; exact j2⟩,?_⟩
   simp only
   rw [s3,s1,s2,List.map_append,List.flatMap_append]
   simp only [List.map_cons,List.map_nil,List.flatMap_cons,List.flatMap_nil,List.append_nil]
   exact Drop.refl _ _
  ·have s1:=mtL_succ (s:=s) (k:=x)
   have s2:=whoT_succ (s:=s) (k:=x)
   rw [hc,g,if_neg (by decide)] at s1 s2
   refine ⟨(x+1,ow,ol),⟨rfl,by omega,by rw [s1]; exact e3,by rw [s1]; exact e4⟩,?_⟩
   simp only
   rw [s1,s2]
   exact Drop.refl _ _
 ·rintro k ⟨x,ow,ol⟩ d1 ⟨rfl,e2,e3,e4⟩ d2
  simp only at d1 e2 e3 e4 d2 ⊢
  have hc:cntB (gr zeroM s.members x)=false:=by simpa [cntB] using d2
  have s1:=mtL_succ (s:=s) (k:=x)
  have s2:=whoT_succ (s:=s) (k:=x)
  rw [hc,Bool.false_and,if_neg (by decide)] at s1 s2
  refine ⟨(x+1,ow,ol),⟨rfl,by omega,by rw [s1]; exact e3,by rw [s1]; exact e4⟩,?_⟩
  simp only
  rw [s1,s2]
  exact Drop.refl _ _
 ·exact ⟨rfl,Nat.zero_le _,rfl,rfl⟩
 ·rintro ⟨x,ow,ol⟩ ⟨e1,e2,e3,e4⟩
  simp only at e1 e2 e3 e4 ⊢
  subst e1
  exact hk ow ol e3 e4
theorem mtX_succ (s:StD) (r:RepD) (k:Nat):mtX s r (k+1)=pyStep s.par ((mtW s).getD k 0) (at0 (mtP s r) k) (mtX s r k):=rfl
theorem whoT_at {s:StD} {k:Nat} (hk:k<(mtW s).length):at0 (whoT s s.members.length) k=((mtW s).getD k 0:Nat):=by
 have h1:(whoT s s.members.length).length=(mtW s).length:=by unfold whoT mtW; rw [List.length_map]
 rw [← at0_lt (by omega)]
 simp only [whoT,List.getElem_map]
 rw [List.getD_eq_getElem?_getD,List.getElem?_eq_getElem hk]
 rfl
theorem mt_step {s:StD} {r:RepD} {D:Nat} (ti:TkI s D) (ha:0≤r.act∧r.act≤18446744073709551615) {k:Nat} (hk:k<(mtW s).length) {i:Nat} (hi:i=(mtW s).getD k 0) {m:MemD} (hm:m=gr zeroM (mtX s r k).1 i) {a:Int} (haa:a=at0 (mtP s r) k) :
  i<s.members.length∧i<(mtX s r k).1.length∧MemOk m∧(0≤m.owner∧m.owner<s.purses.length)∧(mtX s r k).2.length=s.purses.length∧(0≤a∧a≤4611686018427387904)∧at0 (mtX s r k).2 m.owner.toNat+(payM s.par m a).2≤4611686018427387904∧0≤(payM s.par m a).2∧(0≤s.treas+mtN s r-sumK (mtP s r) k-a∧s.treas+mtN s r-sumK (mtP s r) k≤4611686018427387904)∧(0≤sumK (mtP s r) k∧sumK (mtP s r) k+a≤4611686018427387904) ∧
  (mtX s r (k+1)).1=(mtX s r k).1.set i (payM s.par m a).1∧(mtX s r (k+1)).2=(mtX s r k).2.set m.owner.toNat (at0 (mtX s r k).2 m.owner.toNat+(payM s.par m a).2)∧sumK (mtP s r) (k+1)=sumK (mtP s r) k+a∧(payM s.par m a).1.owner=m.owner:=by
 have h0:=mt_k ti ha (k:=k) (by omega)
 have h1:=mtk_ti ti ha (k:=k) (by omega)
 have h2:=mtk_ti ti ha (k:=k+1) (by omega)
 have hw:i<s.members.length:=by
  rw [hi,List.getD_eq_getElem?_getD,List.getElem?_eq_getElem hk,Option.getD_some]
  exact mtW_lt _ (List.getElem_mem hk)
 have hi2:i<(mtX s r k).1.length:=by rw [h0.l1]; exact hw
 obtain ⟨mo,o1,o2⟩:=h0.b.at hi2
 rw [← hm] at mo o1 o2
 have hn:=mt_n ti ha
 obtain ⟨p1,p2,p3⟩:=mt_p ti ha
 have pa:=p1 k
 rw [← haa] at pa
 have ht:=ti.top
 have hgm:0≤s.gen+s.mint:=by
  have u1:=ti.ok.u s.gen (by simp)
  have u2:=ti.ok.u s.mint (by simp)
  omega
 have hl2:(mtX s r k).2.length=s.purses.length:=h0.l2
 rw [hl2] at o2
 obtain ⟨g1,g2,g3,g4,g5,g6⟩:=payM_ok ti.ok.p mo pa.1
 have e1:(mtX s r (k+1)).1=(mtX s r k).1.set i (payM s.par m a).1:=by rw [mtX_succ,← hi,← haa,hm]; rfl
 have e2:(mtX s r (k+1)).2=(mtX s r k).2.set m.owner.toNat (at0 (mtX s r k).2 m.owner.toNat+(payM s.par m a).2):=by rw [mtX_succ,← hi,← haa,hm]; rfl
 have e3:sumK (mtP s r) (k+1)=sumK (mtP s r) k+a:=by rw [sumK,← haa]
 have q1:=h1.parts
 have q2:=h2.parts
 have s1:=h1.sum
 have s2:=h2.sum
 have t1:(mtSk s r k).treas=s.treas+mtN s r-sumK (mtP s r) k:=rfl
 have t2:(mtSk s r (k+1)).treas=s.treas+mtN s r-sumK (mtP s r) (k+1):=rfl
 have b1:=(h2.be.le m.owner.toNat).2
 have b2:(mtSk s r (k+1)).purses=(mtX s r (k+1)).2:=rfl
 rw [b2,e2,at0_set _ _ _ _ (by omega),if_pos rfl] at b1
 have b3:tot (mtSk s r (k+1)).purses=tot ((mtX s r k).2.set m.owner.toNat (at0 (mtX s r k).2 m.owner.toNat+(payM s.par m a).2)):=by rw [b2,e2]
 have sk:=p3 k (by omega)
 have sk1:=p3 (k+1) (by omega)
 rw [e3] at t2 sk1
 exact ⟨hw,hi2,mo,⟨o1,o2⟩,hl2,⟨pa.1,by omega⟩,by omega,g4,⟨by omega,by omega⟩,⟨sk.1,by omega⟩,e1,e2,e3,g2⟩
end Go.X
