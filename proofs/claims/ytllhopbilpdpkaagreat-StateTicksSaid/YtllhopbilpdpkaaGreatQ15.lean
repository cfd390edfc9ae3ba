/- Lemmas and contracts. Conditions: as each says. -/
import Derived.Test.YtllhopbilpdpkaaGreatQ13
set_option linter.unusedVariables false
set_option linter.unusedSimpArgs false
set_option maxHeartbeats 12800000
set_option maxRecDepth 20000
namespace Go.X
open Go.RowKit Go.Proofs Go.Bl Go.Proofs.Tryz
variable {L:Own} {h:PH} {K:PK}
theorem VN (n lo hi:Int)(hk:K (.bool (wi n lo hi)) L h):Zb prog 251 [.int .u64 n,.int .u64 lo,.int .u64 hi] L h K:=by
 unfold wi at hk;refine ed func251 ?_;refine xx ?_;by_cases c:lo<=n
 ·refine xx ?_;exact ZP qC
 ·refine xx ?_;exact ZP qC
theorem Uk (n lo hi:Int)(hk:K (.bool (wi n lo hi)) L h):Zb prog 252 [.int .i64 n,.int .i64 lo,.int .i64 hi] L h K:=by
 unfold wi at hk;refine ed func252 ?_;refine xx ?_;by_cases c:lo<=n
 ·refine xx ?_;exact ZP qC
 ·refine xx ?_;exact ZP qC
theorem Zos (a b:Int):(0<=J2 a b)↔b<=a:=by
 unfold J2;split
 ·constructor<;>intro h<;>omega
 ·split<;>constructor<;>intro h<;>omega
theorem Zwv (p:Ze)(ok:Zj p)(h1:Wa p=true)(h2:WB p=true)(hk:∀h',PH.le h h'->K (.int .u64 (VT p)) L h'):Zb prog 22 [WS p] L h K:=by
  have f1:=YK h1;have f2:=Wd h2;refine ed func22 ?_;refine xx ?_;refine ZY fun b1 nb1 zb1=>?_;(try simp only[ZS]at nb1);refine xx ?_;refine YN (.tk 0 (.tk 3 (.tkl 1 (.tkl 4 (.o1 2 (.o1 5 (.o1 6 (.o1 7 (.o2 8 (.fin) (.nil)) (.nil)) (.o1 7 (.o1 6 (.o2 8 (.fin) (.nil)) (.nil)) (.nil))) (.o1 7 (.o1 5 (.o1 6 (.o2 8 (.fin) (.nil)) (.nil)) (.nil)) (.nil))) (.o1 7 (.o1 2 (.o1 5 (.o1 6 (.o2 8 (.fin) (.nil)) (.nil)) (.nil)) (.nil)) (.nil))))))) qg qg [(1,.pointer (some ⟨b1,0,none⟩))] [⟨b1,39,Jj p,24⟩] (γ:=Value×Nat×PH)
    (fun s=>PH.le h s.2.2/\Nt s.2.2 (.agg #[s.1]) (p.inc*p.aP) 41/\s.2.2 b1=noC/\s.2.2 s.2.1=noC/\b1≠s.2.1)
    (fun s=>[(1,.pointer (some ⟨b1,0,none⟩)),(3,.pointer (some ⟨s.2.1,0,none⟩))])
    (fun s=>⟨s.2.1,144,[s.1],1⟩::⟨b1,39,Jj p,24⟩::L) (fun s=>s.2.2) qi (Za.mem qj) ?_ ?_
  · repeat' first
      | with_reducible refine Yf ?_ ?_
      | with_reducible refine xkp (Za.mem qj) ?_
      | with_reducible refine xkp ((Za.forget le4').trans (Za.mem qj)) ?_
      | with_reducible refine xkp ((Za.forget le3').trans (Za.mem qj)) ?_
      | with_reducible refine xkp ((Za.forget le2).trans (Za.mem qj)) ?_
      | (with_reducible refine ZY fun b3 nb3 zb3 => ?_
         simp only[ZS]at nb3)
      | simp -dsimp -implicitDefEqProofs (disch:=first|exact dD|fail) [go_sem]
      | (with_reducible show WW prog 77 [.int .u64 p.inc] _ _ _
         refine Zb.ap (YZ p.inc qf qf fun h2 r2 le2 nt2 ap2=>?_);obtain⟨s2,d2,rfl,is2,hs2⟩:=nt2
         have nt2:Nt h2 (.agg #[s2]) p.inc 20:=⟨s2,d2,rfl,is2,hs2⟩)
      | (with_reducible show WW prog 77 [.int .u64 p.aP] _ _ _
         refine Zb.ap (YZ p.aP qf qf fun h3 r3 le3 nt3 ap3=>?_);have le3':=PH.le.trans le2 le3;obtain⟨s3,d3,rfl,is3,hs3⟩:=nt3
         have nt3:Nt h3 (.agg #[s3]) p.aP 20:=⟨s3,d3,rfl,is3,hs3⟩)
      | (with_reducible show WW prog 76 _ _ _ _
         refine Zb.ap (U6 _ _ (nt2.up le3) nt3 qf fun h4 r4 le4 nt4 ap4=>?_);have le4':=PH.le.trans le3' le4;simp only[Ap]at ap4;obtain⟨s4,d4,rfl,is4,hs4⟩:=nt4;have nt4:Nt h4 (.agg #[s4]) (p.inc*p.aP) 41:=⟨s4,d4,rfl,is4,hs4⟩
         have os4:=is4.open
         obtain⟨z1,z2,rfl,_⟩:=os4)
    all_goals
      refine⟨_,b3,h4,⟨le4',nt4,?_,?_,nb3.1⟩,qi,Za.refl _ _⟩
      · simp only[ap4]
      · simp only[ap4,zb3]
  rintro⟨sA,b3,hA⟩ ⟨leA,ntA,qa1,qa3,n13⟩;simp only at leA ntA qa1 qa3 n13 ⊢;refine xx ?_;refine YN (.tk 0 (.tk 4 (.tk 6 (.tkl 1 (.tk 2 (.tkl 5 (.tkl 7 (.tk 8 (.o1 3 (.o1 9 (.o1 10 (.o1 11 (.o2 12 (.fin) (.nil)) (.nil)) (.o1 11 (.o1 10 (.o2 12 (.fin) (.nil)) (.nil)) (.nil))) (.o1 11 (.o1 9 (.o1 10 (.o2 12 (.fin) (.nil)) (.nil)) (.nil)) (.nil))) (.o1 11 (.o1 3 (.o1 9 (.o1 10 (.o2 12 (.fin) (.nil)) (.nil)) (.nil)) (.nil)) (.nil))))))))))) qg qg [(1,.pointer (some ⟨b1,0,none⟩)),(3,.pointer (some ⟨b3,0,none⟩))] [⟨b1,39,Jj p,24⟩] (γ:=Value×Nat×PH)
    (fun s=>PH.le hA s.2.2/\Nt s.2.2 (.agg #[s.1]) (2*p.aQ*(p.cap-p.floor)) 41/\s.2.2 b1=noC/\s.2.2 b3=noC/\s.2.2 s.2.1=noC/\b3≠s.2.1/\b1≠s.2.1)
    (fun s=>[(1,.pointer (some ⟨b1,0,none⟩)),(3,.pointer (some ⟨b3,0,none⟩)),(4,.pointer (some ⟨s.2.1,0,none⟩))])
    (fun s=>⟨s.2.1,144,[s.1],1⟩::⟨b3,144,[sA],1⟩::⟨b1,39,Jj p,24⟩::L) (fun s=>s.2.2) qi (Za.mem qj) ?_ ?_
  · repeat' first
      | with_reducible refine Yf ?_ ?_
      | with_reducible refine xkp (Za.mem qj) ?_
      | with_reducible refine xkp ((Za.forget le4').trans (Za.mem qj)) ?_
      | with_reducible refine xkp ((Za.forget le3').trans (Za.mem qj)) ?_
      | with_reducible refine xkp ((Za.forget le2).trans (Za.mem qj)) ?_
      | (with_reducible refine ZY fun b4 nb4 zb4 => ?_
         simp only[ZS]at nb4)
      | simp -dsimp -implicitDefEqProofs (disch:=first|exact dD|fail) [go_sem]
      | (with_reducible show WW prog 77 [.int .u64 (2 * p.aQ)] _ _ _
         refine Zb.ap (YZ (2*p.aQ) qf qf fun h2 r2 le2 nt2 ap2=>?_);obtain⟨s2,d2,rfl,is2,hs2⟩:=nt2
         have nt2:Nt h2 (.agg #[s2]) (2*p.aQ) 20:=⟨s2,d2,rfl,is2,hs2⟩)
      | (with_reducible show WW prog 77 [.int .u64 (p.cap - p.floor)] _ _ _
         refine Zb.ap (YZ (p.cap-p.floor) qf qf fun h3 r3 le3 nt3 ap3=>?_);have le3':=PH.le.trans le2 le3;obtain⟨s3,d3,rfl,is3,hs3⟩:=nt3
         have nt3:Nt h3 (.agg #[s3]) (p.cap-p.floor) 20:=⟨s3,d3,rfl,is3,hs3⟩)
      | (with_reducible show WW prog 76 _ _ _ _
         refine Zb.ap (U6 _ _ (nt2.up le3) nt3 qf fun h4 r4 le4 nt4 ap4=>?_);have le4':=PH.le.trans le3' le4;simp only[Ap]at ap4;obtain⟨s4,d4,rfl,is4,hs4⟩:=nt4;have nt4:Nt h4 (.agg #[s4]) (2*p.aQ*(p.cap-p.floor)) 41:=⟨s4,d4,rfl,is4,hs4⟩
         have os4:=is4.open
         obtain⟨z1,z2,rfl,_⟩:=os4)
    all_goals
      refine⟨_,b4,h4,⟨le4',nt4,?_,?_,?_,nb4.1,nb4.2.1⟩,qi,Za.refl _ _⟩
      · simp only[ap4]
      · simp only[ap4]
      · simp only[ap4,zb4]
  rintro⟨sB,b4,hB⟩ ⟨leB,ntB,qb1,qb3,qb4,n34,n14⟩;simp only at leB ntB qb1 qb3 qb4 n34 n14 ⊢;refine xx ?_;refine Yi (γ:=Nat×Nat×PH) (0,1048577,hB)
    (fun s=>s.1<s.2.1/\s.2.1<=1048577/\(∀t,1<=t->t<=s.1->Vj p t=false)/\(s.2.1<1048577->Vj p s.2.1=true)/\PH.le hB s.2.2/\s.2.2 b1=noC/\s.2.2 b3=noC/\s.2.2 b4=noC)
    (fun s=>[(5,.int .u64 s.1),(6,.int .u64 s.2.1),(1,.pointer (some ⟨b1,0,none⟩)),(3,.pointer (some ⟨b3,0,none⟩)),(4,.pointer (some ⟨b4,0,none⟩))])
    (fun s=>⟨b4,144,[sB],1⟩::⟨b3,144,[sA],1⟩::⟨b1,39,Jj p,24⟩::L) (fun s=>s.2.2) (fun s=>s.2.1-s.1) ?_ ?_ ?_ ?_
  · exact⟨qj,qj,fun t h1 h2=>by simp only at h2;omega,fun h=>by simp only at h;omega,PH.le_refl _,qb1,qb3,qb4⟩
  · simp [Ent,List.lookup]
  · exact Za.refl _ _
  rintro⟨lo,hi,hh⟩ ⟨i1,i2,i3,i4,i5,i6,i7,i8⟩;simp only at i1 i2 i3 i4 i5 i6 i7 i8 ⊢;by_cases d:hi-lo>1
  · obtain⟨m,hm⟩:∃m,m=(lo+hi)/2:=⟨_,rfl⟩
    have em:((hi:Int)+(lo:Int))/2=(m:Int):=qf;have em':((lo:Int)+(hi:Int))/2=(m:Int):=qf;have hB':0<=(m:Int)*((m:Int)+1)/\(m:Int)*((m:Int)+1)<=1099513724929 :=
      ⟨Int.mul_nonneg qf qf,Int.le_trans (Int.mul_le_mul (show (m:Int)<=1048576 from qf) (show (m:Int)+1<=1048577 from qf) qf qf) qh⟩
    simp -dsimp -implicitDefEqProofs (disch:=first|exact dD|fail) [go_sem,em,em'];refine Z4 (.tk 1 (.tk 2 (.tk 3 (.tk 4 (.tkl 0 (.tkl 7 (.o1 5 (.o1 6 (.o1 8 (.tk 9 (.fin)) (.nil)) (.nil)) (.nil)))))))) qg qg _ (Za.refl _ _) ?_;refine xx ?_;refine Zb.ap (YZ _ hB'.1 qf fun h2 r2 le2 nt2 ap2=>?_);simp only[Ap]at ap2;refine xkp (Za.forget le2) ?_;refine xx ?_;refine Zb.ap (U6 _ _ (ntA.up (leB.trans (i5.trans le2))) nt2 qf fun h3 r3 le3 nt3 ap3=>?_);simp only[Ap]at ap3;obtain⟨w4,w3,w1,_⟩:=ap3;refine xkp (Za.forget (le2.trans le3)) ?_;refine xx ?_;refine UV _ _ nt3 (ntB.up (i5.trans (le2.trans le3))) ?_;refine xkp (Za.forget (le2.trans le3)) ?_;have e:Vj p m=decide (0<=J2 (p.inc*p.aP*((m:Int)*((m:Int)+1))) (2*p.aQ*(p.cap-p.floor))):=by
      unfold Vj;rw[decide_eq_decide,Zos]
    refine xx ?_;rw[<- e]
    cases hg:Vj p m with
    | true =>
      refine xx ?_;exact⟨lo,m,h3,⟨qf,qf,i3,fun _=>hg,i5.trans (le2.trans le3),w1,w3,w4⟩,qf,qi,Za.refl _ _⟩
    | false =>
      refine xx ?_;refine⟨m,hi,h3,⟨qf,qf,fun t h1 h2=>?_,i4,i5.trans (le2.trans le3),w1,w3,w4⟩,qf,qi,Za.refl _ _⟩
      cases ht:Vj p t with
      | false=>rfl
      | true=>rw[Zby qf qf h2 ht]at hg;cases hg
  · have e:VT p=hi:=Vf qf qf (fun t h1 h2=>i3 t h1 qf) (fun h=>i4 qf);rw[e]at hk;refine xx ?_;exact ZO (ZO (ZO (ZP (hk hh (leA.trans (leB.trans i5))))))
theorem Zgb (p:Ze)(ok:Zj p)(hk:∀h',PH.le h h'->K (.bool (Yo p)) L h'):Zb prog 116 [WS p] L h K:=by
 refine ed func116 ?_;refine xx ?_;refine ZY fun b1 nb1 zb1=>?_;(try simp only[ZS]at nb1);refine xx ?_;refine VN _ _ _ ?_;by_cases c1:wi p.inc 1 2147483648=true
 rotate_left
 ·have c1':wi p.inc 1 2147483648=false:=by simpa using c1
  rw[c1'];rw[show Yo p=false by simp [Yo,Wa,c1']]at hk;refine xx ?_;exact ZO (ZP (hk h (PH.le_refl h)))
 rw[c1];have f1:=(wi_iff.1 c1).1;have f2:=ok.w p.aF qB;refine xx ?_;refine VN _ _ _ ?_;by_cases c2:wi p.aF p.inc 1099511627776=true
 rotate_left
 ·have c2':wi p.aF p.inc 1099511627776=false:=ww;rw[c2'];rw[show Yo p=false by simp [Yo,Wa,c2']]at hk;refine xx ?_;exact ZO (ZP (hk h (PH.le_refl h)))
 rw[c2];by_cases c3:p.aF%p.inc=0
 rotate_left
 ·rw[show Yo p=false by simp [Yo,Wa,c3]]at hk;refine xx ?_;exact ZO (ZP (hk h (PH.le_refl h)))
 by_cases c4:p.inc<=p.floor
 rotate_left
 ·rw[show Yo p=false by simp [Yo,Wa,c4]]at hk;refine xx ?_;exact ZO (ZP (hk h (PH.le_refl h)))
 by_cases c5:p.floor<p.cap
 rotate_left
 ·rw[show Yo p=false by simp [Yo,Wa,c5]]at hk;refine xx ?_;exact ZO (ZP (hk h (PH.le_refl h)))
 refine xx ?_;refine VN _ _ _ ?_;by_cases c6:wi p.cap p.aF 1099511627776=true
 rotate_left
 ·have c6':wi p.cap p.aF 1099511627776=false:=by simpa using c6
  rw[c6'];rw[show Yo p=false by simp [Yo,Wa,c6']]at hk;refine xx ?_;exact ZO (ZP (hk h (PH.le_refl h)))
 rw[c6];refine xx ?_;refine VN _ _ _ ?_;by_cases c7:wi p.up p.inc 1099511627776=true
 rotate_left
 ·have c7':wi p.up p.inc 1099511627776=false:=by simpa using c7
  rw[c7'];rw[show Yo p=false by simp [Yo,Wa,c7']]at hk;refine xx ?_;exact ZO (ZP (hk h (PH.le_refl h)))
 rw[c7];by_cases c8:p.down<=1099511627776
 rotate_left
 ·rw[show Yo p=false by simp [Yo,Wa,c8]]at hk;refine xx ?_;exact ZO (ZP (hk h (PH.le_refl h)))
 refine xx ?_;refine VN _ _ _ ?_;by_cases c9:wi p.aP 1 4294967296=true
 rotate_left
 ·have c9':wi p.aP 1 4294967296=false:=by simpa using c9
  rw[c9'];rw[show Yo p=false by simp [Yo,WB,c9']]at hk;refine xx ?_;exact ZO (ZP (hk h (PH.le_refl h)))
 rw[c9];refine xx ?_;refine VN _ _ _ ?_;by_cases c10:wi p.aO p.aP 4294967296=true
 rotate_left
 ·have c10':wi p.aO p.aP 4294967296=false:=by simpa using c10
  rw[c10'];rw[show Yo p=false by simp [Yo,WB,c10']]at hk;refine xx ?_;exact ZO (ZP (hk h (PH.le_refl h)))
 rw[c10];refine xx ?_;refine VN _ _ _ ?_;by_cases c11:wi p.aQ 1 1099511627776=true
 rotate_left
 ·have c11':wi p.aQ 1 1099511627776=false:=by simpa using c11
  rw[c11'];rw[show Yo p=false by simp [Yo,WB,c11']]at hk;refine xx ?_;exact ZO (ZP (hk h (PH.le_refl h)))
 rw[c11];refine xx ?_;refine VN _ _ _ ?_;by_cases c12:wi p.aH 1 p.aQ=true
 rotate_left
 ·have c12':wi p.aH 1 p.aQ=false:=by simpa using c12
  rw[c12'];rw[show Yo p=false by simp [Yo,WB,c12']]at hk;refine xx ?_;exact ZO (ZP (hk h (PH.le_refl h)))
 rw[c12];by_cases c13:p.recover<=4294967296
 rotate_left
 ·rw[show Yo p=false by simp [Yo,WB,c13]]at hk;refine xx ?_;exact ZO (ZP (hk h (PH.le_refl h)))
 refine xx ?_;refine VN _ _ _ ?_;by_cases c14:wi p.aA 1 72057594037927936=true
 rotate_left
 ·have c14':wi p.aA 1 72057594037927936=false:=by simpa using c14
  rw[c14'];rw[show Yo p=false by simp [Yo,WB,c14']]at hk;refine xx ?_;exact ZO (ZP (hk h (PH.le_refl h)))
 rw[c14];by_cases c15:p.rate<=4294967296
 rotate_left
 ·rw[show Yo p=false by simp [Yo,We,c15]]at hk;refine xx ?_;exact ZO (ZP (hk h (PH.le_refl h)))
 by_cases c16:p.aX<=1099511627776
 rotate_left
 ·rw[show Yo p=false by simp [Yo,We,c16]]at hk;refine xx ?_;exact ZO (ZP (hk h (PH.le_refl h)))
 refine xx ?_;refine Uk _ _ _ ?_;by_cases c17:wi p.delay 0 1000=true
 rotate_left
 ·have c17':wi p.delay 0 1000=false:=by simpa using c17
  rw[c17'];rw[show Yo p=false by simp [Yo,We,c17']]at hk;refine xx ?_;exact ZO (ZP (hk h (PH.le_refl h)))
 rw[c17];refine xx ?_;refine Uk _ _ _ ?_;by_cases c18:wi p.wait 0 50=true
 rotate_left
 ·have c18':wi p.wait 0 50=false:=by simpa using c18
  rw[c18'];rw[show Yo p=false by simp [Yo,We,c18']]at hk;refine xx ?_;exact ZO (ZP (hk h (PH.le_refl h)))
 rw[c18];refine xx ?_;refine Uk _ _ _ ?_;by_cases c19:wi p.aN 0 1000=true
 rotate_left
 ·have c19':wi p.aN 0 1000=false:=by simpa using c19
  rw[c19'];rw[show Yo p=false by simp [Yo,We,c19']]at hk;refine xx ?_;exact ZO (ZP (hk h (PH.le_refl h)))
 rw[c19];refine xx ?_;refine Uk _ _ _ ?_;by_cases c20:wi p.aW 1 1000=true
 rotate_left
 ·have c20':wi p.aW 1 1000=false:=by simpa using c20
  rw[c20'];rw[show Yo p=false by simp [Yo,We,c20']]at hk;refine xx ?_;exact ZO (ZP (hk h (PH.le_refl h)))
 rw[c20];refine xx ?_;refine Uk _ _ _ ?_;by_cases c21:wi p.ak 0 64=true
 rotate_left
 ·have c21':wi p.ak 0 64=false:=by simpa using c21
  rw[c21'];rw[show Yo p=false by simp [Yo,We,c21']]at hk;refine xx ?_;exact ZO (ZP (hk h (PH.le_refl h)))
 rw[c21];refine xx ?_;refine Uk _ _ _ ?_;by_cases c22:wi p.aS 0 1000=true
 rotate_left
 ·have c22':wi p.aS 0 1000=false:=by simpa using c22
  rw[c22'];rw[show Yo p=false by simp [Yo,We,c22']]at hk;refine xx ?_;exact ZO (ZP (hk h (PH.le_refl h)))
 rw[c22];refine xx ?_;refine Uk _ _ _ ?_;by_cases c23:wi p.aJ 0 10000=true
 rotate_left
 ·have c23':wi p.aJ 0 10000=false:=by simpa using c23
  rw[c23'];rw[show Yo p=false by simp [Yo,We,c23']]at hk;refine xx ?_;exact ZO (ZP (hk h (PH.le_refl h)))
 rw[c23];refine xx ?_;refine Uk _ _ _ ?_;by_cases c24:wi p.aG 0 10000=true
 rotate_left
 ·have c24':wi p.aG 0 10000=false:=by simpa using c24
  rw[c24'];rw[show Yo p=false by simp [Yo,We,c24']]at hk;refine xx ?_;exact ZO (ZP (hk h (PH.le_refl h)))
 rw[c24];refine xx ?_;refine Uk _ _ _ ?_;by_cases c25:wi p.aI 0 10000=true
 rotate_left
 ·have c25':wi p.aI 0 10000=false:=by simpa using c25
  rw[c25'];rw[show Yo p=false by simp [Yo,We,c25']]at hk;refine xx ?_;exact ZO (ZP (hk h (PH.le_refl h)))
 rw[c25];refine xx ?_;refine Uk _ _ _ ?_;by_cases c26:wi p.aK 1 64=true
 rotate_left
 ·have c26':wi p.aK 1 64=false:=by simpa using c26
  rw[c26'];rw[show Yo p=false by simp [Yo,We,c26']]at hk;refine xx ?_;exact ZO (ZP (hk h (PH.le_refl h)))
 rw[c26];have h1:Wa p=true:=by simp [Wa,c1,c2,c3,c4,c5,c6,c7,c8]
 have h2:WB p=true:=by simp [WB,c9,c10,c11,c12,c13,c14]
 have h3:We p=true:=by simp [We,c15,c16,c17,c18,c19,c20,c21,c22,c23,c24,c25,c26]
 have f3:=YK h1;have f4:=Wd h2;have e:Yo p=(decide (VT p<=1048576)&&decide (p.aP*(VT p:Int)<=p.aA)):=by simp [Yo,h1,h2,h3]
 have hl:=(Vp (Vj p) 1048576 1).2.1;have hl1:VT p<=1048577:=by unfold VT;omega
 have hA:0<=p.aP*(VT p:Int)/\p.aP*(VT p:Int)<=4503603922337792 :=
  ⟨Int.mul_nonneg qf qf,Int.le_trans (Int.mul_le_mul f4.2.1 (show (VT p:Int)<=1048577 from qf) qf qf) qh⟩
 rw[e]at hk;refine xx ?_;refine Zb.ap (Zwv p ok h1 h2 fun h5 le5 ap=>?_);obtain⟨q5,_⟩:=ap;by_cases d1:VT p<=1048576
 ·refine xx ?_;exact ZO (ZP (by simpa [d1] using hk h5 le5))
 ·refine xx ?_;exact ZO (ZP (by simpa [d1] using hk h5 le5))
end Go.X
