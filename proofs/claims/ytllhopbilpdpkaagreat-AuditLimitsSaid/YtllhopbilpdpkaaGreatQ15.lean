/- Lemmas and contracts. Conditions: as each says. -/
import Derived.Test.YtllhopbilpdpkaaGreatQ13
set_option linter.unusedVariables false
set_option linter.unusedSimpArgs false
set_option maxHeartbeats 12800000
set_option maxRecDepth 20000
namespace Go.X
open Go.RowKit Go.Proofs Go.Bl Go.Proofs.Tryz
variable {L:Own} {h:PH} {K:PK}
theorem Vy (n lo hi:Int)(hk:K (.bool (wi n lo hi)) L h):Zb prog 251 [.int .u64 n,.int .u64 lo,.int .u64 hi] L h K:=by
 unfold wi at hk;refine ZS func251 rfl (rs:=[_]) rfl rfl ZX (by kernel_rfl) rfl rfl ?_;refine xx ?_;by_cases c:lo≤n
 ·refine xx ?_;exact ZP (by simpa [c] using hk)
 ·refine xx ?_;exact ZP (by simpa [c] using hk)
theorem V5 (n lo hi:Int)(hk:K (.bool (wi n lo hi)) L h):Zb prog 252 [.int .i64 n,.int .i64 lo,.int .i64 hi] L h K:=by
 unfold wi at hk;refine ZS func252 rfl (rs:=[_]) rfl rfl ZX (by kernel_rfl) rfl rfl ?_;refine xx ?_;by_cases c:lo≤n
 ·refine xx ?_;exact ZP (by simpa [c] using hk)
 ·refine xx ?_;exact ZP (by simpa [c] using hk)
theorem Zmb (a b:Int):(0≤Zdj a b)↔b≤a:=by
 unfold Zdj;split
 ·constructor<;>intro h<;>omega
 ·split<;>constructor<;>intro h<;>omega
theorem Zic (p:Zd)(ok:Zj p)(h1:Y2 p=true)(h2:Wo p=true)(hk:∀h',PH.le h h'→K (.int .u64 (Vo p)) L h'):Zb prog 22 [WR p] L h K:=by
  have f1:=Yk h1;have f2:=YU h2;refine ZS func22 rfl (rs:=[_]) rfl rfl ZX (by kernel_rfl) rfl rfl ?_;refine xx ?_;refine Z0 fun b1 nb1 zb1=>?_;(try simp only[ZT]at nb1);refine xx ?_;refine Wi (.tk 0 (.tk 3 (.tkl 1 (.tkl 4 (.o1 2 (.o1 5 (.o1 6 (.o1 7 (.o2 8 (.fin) (.nil)) (.nil)) (.o1 7 (.o1 6 (.o2 8 (.fin) (.nil)) (.nil)) (.nil))) (.o1 7 (.o1 5 (.o1 6 (.o2 8 (.fin) (.nil)) (.nil)) (.nil)) (.nil))) (.o1 7 (.o1 2 (.o1 5 (.o1 6 (.o2 8 (.fin) (.nil)) (.nil)) (.nil)) (.nil)) (.nil))))))) (by kernel_rfl) (by kernel_rfl) [(1,.pointer (some ⟨b1,0,none⟩))] [⟨b1,39,GL p,24⟩] (γ:=Value×Nat×PH)
    (fun s=>PH.le h s.2.2∧Nt s.2.2 (.agg #[s.1]) (p.inc*p.bias) 41∧s.2.2 b1=noC∧s.2.2 s.2.1=noC∧b1≠s.2.1)
    (fun s=>[(1,.pointer (some ⟨b1,0,none⟩)),(3,.pointer (some ⟨s.2.1,0,none⟩))])
    (fun s=>⟨s.2.1,144,[s.1],1⟩::⟨b1,39,GL p,24⟩::L) (fun s=>s.2.2) (by simp [Ent,List.lookup]) (Za.mem (by simp)) ?_ ?_
  · repeat' first
      | with_reducible refine Y0 ?_ ?_
      | with_reducible refine xkp (Za.mem (by simp)) ?_
      | with_reducible refine xkp ((Za.forget le4').trans (Za.mem (by simp))) ?_
      | with_reducible refine xkp ((Za.forget le3').trans (Za.mem (by simp))) ?_
      | with_reducible refine xkp ((Za.forget le2).trans (Za.mem (by simp))) ?_
      | (with_reducible refine Z0 fun b3 nb3 zb3 => ?_
         simp only[ZT]at nb3)
      | simp -dsimp -implicitDefEqProofs (disch:=first|with_reducible assumption|omega) [go_sem]
      | (with_reducible show VP prog 77 [.int .u64 p.inc] _ _ _
         refine Zb.ap (Vu p.inc (by omega) (by omega) fun h2 r2 le2 nt2 ap2=>?_);obtain⟨s2,d2,rfl,is2,hs2⟩:=nt2
         have nt2:Nt h2 (.agg #[s2]) p.inc 20:=⟨s2,d2,rfl,is2,hs2⟩)
      | (with_reducible show VP prog 77 [.int .u64 p.bias] _ _ _
         refine Zb.ap (Vu p.bias (by omega) (by omega) fun h3 r3 le3 nt3 ap3=>?_);have le3':=PH.le.trans le2 le3;obtain⟨s3,d3,rfl,is3,hs3⟩:=nt3
         have nt3:Nt h3 (.agg #[s3]) p.bias 20:=⟨s3,d3,rfl,is3,hs3⟩)
      | (with_reducible show VP prog 76 _ _ _ _
         refine Zb.ap (Zgn _ _ (nt2.up le3) nt3 (by omega) fun h4 r4 le4 nt4 ap4=>?_);have le4':=PH.le.trans le3' le4;simp only[Ap]at ap4;obtain⟨s4,d4,rfl,is4,hs4⟩:=nt4;have nt4:Nt h4 (.agg #[s4]) (p.inc*p.bias) 41:=⟨s4,d4,rfl,is4,hs4⟩
         have os4:=is4.open
         obtain⟨z1,z2,rfl,_⟩:=os4)
    all_goals
      refine⟨_,b3,h4,⟨le4',nt4,?_,?_,nb3.1⟩,by simp [Ent,List.lookup],Za.refl _ _⟩
      · simp only[ap4]
      · simp only[ap4,zb3]
  rintro⟨sA,b3,hA⟩ ⟨leA,ntA,qa1,qa3,n13⟩;simp only at leA ntA qa1 qa3 n13 ⊢;refine xx ?_;refine Wi (.tk 0 (.tk 4 (.tk 6 (.tkl 1 (.tk 2 (.tkl 5 (.tkl 7 (.tk 8 (.o1 3 (.o1 9 (.o1 10 (.o1 11 (.o2 12 (.fin) (.nil)) (.nil)) (.o1 11 (.o1 10 (.o2 12 (.fin) (.nil)) (.nil)) (.nil))) (.o1 11 (.o1 9 (.o1 10 (.o2 12 (.fin) (.nil)) (.nil)) (.nil)) (.nil))) (.o1 11 (.o1 3 (.o1 9 (.o1 10 (.o2 12 (.fin) (.nil)) (.nil)) (.nil)) (.nil)) (.nil))))))))))) (by kernel_rfl) (by kernel_rfl) [(1,.pointer (some ⟨b1,0,none⟩)),(3,.pointer (some ⟨b3,0,none⟩))] [⟨b1,39,GL p,24⟩] (γ:=Value×Nat×PH)
    (fun s=>PH.le hA s.2.2∧Nt s.2.2 (.agg #[s.1]) (2*p.quot*(p.cap-p.floor)) 41∧s.2.2 b1=noC∧s.2.2 b3=noC∧s.2.2 s.2.1=noC∧b3≠s.2.1∧b1≠s.2.1)
    (fun s=>[(1,.pointer (some ⟨b1,0,none⟩)),(3,.pointer (some ⟨b3,0,none⟩)),(4,.pointer (some ⟨s.2.1,0,none⟩))])
    (fun s=>⟨s.2.1,144,[s.1],1⟩::⟨b3,144,[sA],1⟩::⟨b1,39,GL p,24⟩::L) (fun s=>s.2.2) (by simp [Ent,List.lookup]) (Za.mem (by simp)) ?_ ?_
  · repeat' first
      | with_reducible refine Y0 ?_ ?_
      | with_reducible refine xkp (Za.mem (by simp)) ?_
      | with_reducible refine xkp ((Za.forget le4').trans (Za.mem (by simp))) ?_
      | with_reducible refine xkp ((Za.forget le3').trans (Za.mem (by simp))) ?_
      | with_reducible refine xkp ((Za.forget le2).trans (Za.mem (by simp))) ?_
      | (with_reducible refine Z0 fun b4 nb4 zb4 => ?_
         simp only[ZT]at nb4)
      | simp -dsimp -implicitDefEqProofs (disch:=first|with_reducible assumption|omega) [go_sem]
      | (with_reducible show VP prog 77 [.int .u64 (2 * p.quot)] _ _ _
         refine Zb.ap (Vu (2*p.quot) (by omega) (by omega) fun h2 r2 le2 nt2 ap2=>?_);obtain⟨s2,d2,rfl,is2,hs2⟩:=nt2
         have nt2:Nt h2 (.agg #[s2]) (2*p.quot) 20:=⟨s2,d2,rfl,is2,hs2⟩)
      | (with_reducible show VP prog 77 [.int .u64 (p.cap - p.floor)] _ _ _
         refine Zb.ap (Vu (p.cap-p.floor) (by omega) (by omega) fun h3 r3 le3 nt3 ap3=>?_);have le3':=PH.le.trans le2 le3;obtain⟨s3,d3,rfl,is3,hs3⟩:=nt3
         have nt3:Nt h3 (.agg #[s3]) (p.cap-p.floor) 20:=⟨s3,d3,rfl,is3,hs3⟩)
      | (with_reducible show VP prog 76 _ _ _ _
         refine Zb.ap (Zgn _ _ (nt2.up le3) nt3 (by omega) fun h4 r4 le4 nt4 ap4=>?_);have le4':=PH.le.trans le3' le4;simp only[Ap]at ap4;obtain⟨s4,d4,rfl,is4,hs4⟩:=nt4;have nt4:Nt h4 (.agg #[s4]) (2*p.quot*(p.cap-p.floor)) 41:=⟨s4,d4,rfl,is4,hs4⟩
         have os4:=is4.open
         obtain⟨z1,z2,rfl,_⟩:=os4)
    all_goals
      refine⟨_,b4,h4,⟨le4',nt4,?_,?_,?_,nb4.1,nb4.2.1⟩,by simp [Ent,List.lookup],Za.refl _ _⟩
      · simp only[ap4]
      · simp only[ap4]
      · simp only[ap4,zb4]
  rintro⟨sB,b4,hB⟩ ⟨leB,ntB,qb1,qb3,qb4,n34,n14⟩;simp only at leB ntB qb1 qb3 qb4 n34 n14 ⊢;refine xx ?_;refine Yu (γ:=Nat×Nat×PH) (0,1048577,hB)
    (fun s=>s.1<s.2.1∧s.2.1≤1048577∧(∀t,1≤t→t≤s.1→W7 p t=false)∧(s.2.1<1048577→W7 p s.2.1=true)∧PH.le hB s.2.2∧s.2.2 b1=noC∧s.2.2 b3=noC∧s.2.2 b4=noC)
    (fun s=>[(5,.int .u64 s.1),(6,.int .u64 s.2.1),(1,.pointer (some ⟨b1,0,none⟩)),(3,.pointer (some ⟨b3,0,none⟩)),(4,.pointer (some ⟨b4,0,none⟩))])
    (fun s=>⟨b4,144,[sB],1⟩::⟨b3,144,[sA],1⟩::⟨b1,39,GL p,24⟩::L) (fun s=>s.2.2) (fun s=>s.2.1-s.1) ?_ ?_ ?_ ?_
  · exact⟨by simp,by simp,fun t h1 h2=>by simp only at h2;omega,fun h=>by simp only at h;omega,PH.le_refl _,qb1,qb3,qb4⟩
  · simp [Ent,List.lookup]
  · exact Za.refl _ _
  rintro⟨lo,hi,hh⟩ ⟨i1,i2,i3,i4,i5,i6,i7,i8⟩;simp only at i1 i2 i3 i4 i5 i6 i7 i8 ⊢;by_cases d:hi-lo>1
  · obtain⟨m,hm⟩:∃m,m=(lo+hi)/2:=⟨_,rfl⟩
    have em:((hi:Int)+(lo:Int))/2=(m:Int):=by omega
    have em':((lo:Int)+(hi:Int))/2=(m:Int):=by omega
    have hB':0≤(m:Int)*((m:Int)+1)∧(m:Int)*((m:Int)+1)≤1099513724929 :=
      ⟨Int.mul_nonneg (by omega) (by omega),Int.le_trans (Int.mul_le_mul (show (m:Int)≤1048576 by omega) (show (m:Int)+1≤1048577 by omega) (by omega) (by omega)) (by decide)⟩
    simp -dsimp -implicitDefEqProofs (disch:=first|with_reducible assumption|omega) [go_sem,em,em'];refine Yj (.tk 1 (.tk 2 (.tk 3 (.tk 4 (.tkl 0 (.tkl 7 (.o1 5 (.o1 6 (.o1 8 (.tk 9 (.fin)) (.nil)) (.nil)) (.nil)))))))) (by kernel_rfl) (by kernel_rfl) _ (Za.refl _ _) ?_;refine xx ?_;refine Zb.ap (Vu _ hB'.1 (by omega) fun h2 r2 le2 nt2 ap2=>?_);simp only[Ap]at ap2;refine xkp (Za.forget le2) ?_;refine xx ?_;refine Zb.ap (Zgn _ _ (ntA.up (leB.trans (i5.trans le2))) nt2 (by omega) fun h3 r3 le3 nt3 ap3=>?_);simp only[Ap]at ap3;obtain⟨w4,w3,w1,_⟩:=ap3;refine xkp (Za.forget (le2.trans le3)) ?_;refine xx ?_;refine Zct _ _ nt3 (ntB.up (i5.trans (le2.trans le3))) ?_;refine xkp (Za.forget (le2.trans le3)) ?_;have e:W7 p m=decide (0≤Zdj (p.inc*p.bias*((m:Int)*((m:Int)+1))) (2*p.quot*(p.cap-p.floor))):=by
      unfold W7;rw[decide_eq_decide,Zmb]
    refine xx ?_;rw[← e]
    cases hg:W7 p m with
    | true =>
      refine xx ?_;exact⟨lo,m,h3,⟨by omega,by omega,i3,fun _=>hg,i5.trans (le2.trans le3),w1,w3,w4⟩,by omega,by simp [Ent,List.lookup],Za.refl _ _⟩
    | false =>
      refine xx ?_;refine⟨m,hi,h3,⟨by omega,by omega,fun t h1 h2=>?_,i4,i5.trans (le2.trans le3),w1,w3,w4⟩,by omega,by simp [Ent,List.lookup],Za.refl _ _⟩
      cases ht:W7 p t with
      | false=>rfl
      | true=>rw[Zav (by omega) (by omega) h2 ht]at hg;cases hg
  · have e:Vo p=hi:=WW (by omega) (by omega) (fun t h1 h2=>i3 t h1 (by omega)) (fun h=>i4 (by omega));rw[e]at hk;refine xx ?_;exact ZO (ZO (ZO (ZP (hk hh (leA.trans (leB.trans i5))))))
theorem Zef (p:Zd)(ok:Zj p)(hk:∀h',PH.le h h'→K (.bool (Yd p)) L h'):Zb prog 116 [WR p] L h K:=by
 refine ZS func116 rfl (rs:=[_]) rfl rfl ZX (by kernel_rfl) rfl rfl ?_;refine xx ?_;refine Z0 fun b1 nb1 zb1=>?_;(try simp only[ZT]at nb1);refine xx ?_;refine Vy _ _ _ ?_;by_cases c1:wi p.inc 1 2147483648=true
 rotate_left
 ·have c1':wi p.inc 1 2147483648=false:=by simpa using c1
  rw[c1'];rw[show Yd p=false by simp [Yd,Y2,c1']]at hk;refine xx ?_;exact ZO (ZP (hk h (PH.le_refl h)))
 rw[c1];have f1:=(wi_iff.1 c1).1;have f2:=ok.w p.maxEff (by simp [Ys]);refine xx ?_;refine Vy _ _ _ ?_;by_cases c2:wi p.maxEff p.inc 1099511627776=true
 rotate_left
 ·have c2':wi p.maxEff p.inc 1099511627776=false:=by simpa using c2
  rw[c2'];rw[show Yd p=false by simp [Yd,Y2,c2']]at hk;refine xx ?_;exact ZO (ZP (hk h (PH.le_refl h)))
 rw[c2];by_cases c3:p.maxEff%p.inc=0
 rotate_left
 ·rw[show Yd p=false by simp [Yd,Y2,c3]]at hk;refine xx ?_;exact ZO (ZP (hk h (PH.le_refl h)))
 by_cases c4:p.inc≤p.floor
 rotate_left
 ·rw[show Yd p=false by simp [Yd,Y2,c4]]at hk;refine xx ?_;exact ZO (ZP (hk h (PH.le_refl h)))
 by_cases c5:p.floor<p.cap
 rotate_left
 ·rw[show Yd p=false by simp [Yd,Y2,c5]]at hk;refine xx ?_;exact ZO (ZP (hk h (PH.le_refl h)))
 refine xx ?_;refine Vy _ _ _ ?_;by_cases c6:wi p.cap p.maxEff 1099511627776=true
 rotate_left
 ·have c6':wi p.cap p.maxEff 1099511627776=false:=by simpa using c6
  rw[c6'];rw[show Yd p=false by simp [Yd,Y2,c6']]at hk;refine xx ?_;exact ZO (ZP (hk h (PH.le_refl h)))
 rw[c6];refine xx ?_;refine Vy _ _ _ ?_;by_cases c7:wi p.up p.inc 1099511627776=true
 rotate_left
 ·have c7':wi p.up p.inc 1099511627776=false:=by simpa using c7
  rw[c7'];rw[show Yd p=false by simp [Yd,Y2,c7']]at hk;refine xx ?_;exact ZO (ZP (hk h (PH.le_refl h)))
 rw[c7];by_cases c8:p.down≤1099511627776
 rotate_left
 ·rw[show Yd p=false by simp [Yd,Y2,c8]]at hk;refine xx ?_;exact ZO (ZP (hk h (PH.le_refl h)))
 refine xx ?_;refine Vy _ _ _ ?_;by_cases c9:wi p.bias 1 4294967296=true
 rotate_left
 ·have c9':wi p.bias 1 4294967296=false:=by simpa using c9
  rw[c9'];rw[show Yd p=false by simp [Yd,Wo,c9']]at hk;refine xx ?_;exact ZO (ZP (hk h (PH.le_refl h)))
 rw[c9];refine xx ?_;refine Vy _ _ _ ?_;by_cases c10:wi p.biasEm p.bias 4294967296=true
 rotate_left
 ·have c10':wi p.biasEm p.bias 4294967296=false:=by simpa using c10
  rw[c10'];rw[show Yd p=false by simp [Yd,Wo,c10']]at hk;refine xx ?_;exact ZO (ZP (hk h (PH.le_refl h)))
 rw[c10];refine xx ?_;refine Vy _ _ _ ?_;by_cases c11:wi p.quot 1 1099511627776=true
 rotate_left
 ·have c11':wi p.quot 1 1099511627776=false:=by simpa using c11
  rw[c11'];rw[show Yd p=false by simp [Yd,Wo,c11']]at hk;refine xx ?_;exact ZO (ZP (hk h (PH.le_refl h)))
 rw[c11];refine xx ?_;refine Vy _ _ _ ?_;by_cases c12:wi p.quotEm 1 p.quot=true
 rotate_left
 ·have c12':wi p.quotEm 1 p.quot=false:=by simpa using c12
  rw[c12'];rw[show Yd p=false by simp [Yd,Wo,c12']]at hk;refine xx ?_;exact ZO (ZP (hk h (PH.le_refl h)))
 rw[c12];by_cases c13:p.recover≤4294967296
 rotate_left
 ·rw[show Yd p=false by simp [Yd,Wo,c13]]at hk;refine xx ?_;exact ZO (ZP (hk h (PH.le_refl h)))
 refine xx ?_;refine Vy _ _ _ ?_;by_cases c14:wi p.scoreCap 1 72057594037927936=true
 rotate_left
 ·have c14':wi p.scoreCap 1 72057594037927936=false:=by simpa using c14
  rw[c14'];rw[show Yd p=false by simp [Yd,Wo,c14']]at hk;refine xx ?_;exact ZO (ZP (hk h (PH.le_refl h)))
 rw[c14];by_cases c15:p.rate≤4294967296
 rotate_left
 ·rw[show Yd p=false by simp [Yd,Y7,c15]]at hk;refine xx ?_;exact ZO (ZP (hk h (PH.le_refl h)))
 by_cases c16:p.bond≤1099511627776
 rotate_left
 ·rw[show Yd p=false by simp [Yd,Y7,c16]]at hk;refine xx ?_;exact ZO (ZP (hk h (PH.le_refl h)))
 refine xx ?_;refine V5 _ _ _ ?_;by_cases c17:wi p.delay 0 1000=true
 rotate_left
 ·have c17':wi p.delay 0 1000=false:=by simpa using c17
  rw[c17'];rw[show Yd p=false by simp [Yd,Y7,c17']]at hk;refine xx ?_;exact ZO (ZP (hk h (PH.le_refl h)))
 rw[c17];refine xx ?_;refine V5 _ _ _ ?_;by_cases c18:wi p.wait 0 50=true
 rotate_left
 ·have c18':wi p.wait 0 50=false:=by simpa using c18
  rw[c18'];rw[show Yd p=false by simp [Yd,Y7,c18']]at hk;refine xx ?_;exact ZO (ZP (hk h (PH.le_refl h)))
 rw[c18];refine xx ?_;refine V5 _ _ _ ?_;by_cases c19:wi p.enact 0 1000=true
 rotate_left
 ·have c19':wi p.enact 0 1000=false:=by simpa using c19
  rw[c19'];rw[show Yd p=false by simp [Yd,Y7,c19']]at hk;refine xx ?_;exact ZO (ZP (hk h (PH.le_refl h)))
 rw[c19];refine xx ?_;refine V5 _ _ _ ?_;by_cases c20:wi p.poll 1 1000=true
 rotate_left
 ·have c20':wi p.poll 1 1000=false:=by simpa using c20
  rw[c20'];rw[show Yd p=false by simp [Yd,Y7,c20']]at hk;refine xx ?_;exact ZO (ZP (hk h (PH.le_refl h)))
 rw[c20];refine xx ?_;refine V5 _ _ _ ?_;by_cases c21:wi p.streak 0 64=true
 rotate_left
 ·have c21':wi p.streak 0 64=false:=by simpa using c21
  rw[c21'];rw[show Yd p=false by simp [Yd,Y7,c21']]at hk;refine xx ?_;exact ZO (ZP (hk h (PH.le_refl h)))
 rw[c21];refine xx ?_;refine V5 _ _ _ ?_;by_cases c22:wi p.boost 0 1000=true
 rotate_left
 ·have c22':wi p.boost 0 1000=false:=by simpa using c22
  rw[c22'];rw[show Yd p=false by simp [Yd,Y7,c22']]at hk;refine xx ?_;exact ZO (ZP (hk h (PH.le_refl h)))
 rw[c22];refine xx ?_;refine V5 _ _ _ ?_;by_cases c23:wi p.absent 0 10000=true
 rotate_left
 ·have c23':wi p.absent 0 10000=false:=by simpa using c23
  rw[c23'];rw[show Yd p=false by simp [Yd,Y7,c23']]at hk;refine xx ?_;exact ZO (ZP (hk h (PH.le_refl h)))
 rw[c23];refine xx ?_;refine V5 _ _ _ ?_;by_cases c24:wi p.burn 0 10000=true
 rotate_left
 ·have c24':wi p.burn 0 10000=false:=by simpa using c24
  rw[c24'];rw[show Yd p=false by simp [Yd,Y7,c24']]at hk;refine xx ?_;exact ZO (ZP (hk h (PH.le_refl h)))
 rw[c24];refine xx ?_;refine V5 _ _ _ ?_;by_cases c25:wi p.quorum 0 10000=true
 rotate_left
 ·have c25':wi p.quorum 0 10000=false:=by simpa using c25
  rw[c25'];rw[show Yd p=false by simp [Yd,Y7,c25']]at hk;refine xx ?_;exact ZO (ZP (hk h (PH.le_refl h)))
 rw[c25];refine xx ?_;refine V5 _ _ _ ?_;by_cases c26:wi p.churn 1 64=true
 rotate_left
 ·have c26':wi p.churn 1 64=false:=by simpa using c26
  rw[c26'];rw[show Yd p=false by simp [Yd,Y7,c26']]at hk;refine xx ?_;exact ZO (ZP (hk h (PH.le_refl h)))
 rw[c26];have h1:Y2 p=true:=by simp [Y2,c1,c2,c3,c4,c5,c6,c7,c8]
 have h2:Wo p=true:=by simp [Wo,c9,c10,c11,c12,c13,c14]
 have h3:Y7 p=true:=by simp [Y7,c15,c16,c17,c18,c19,c20,c21,c22,c23,c24,c25,c26]
 have f3:=Yk h1;have f4:=YU h2;have e:Yd p=(decide (Vo p≤1048576)&&decide (p.bias*(Vo p:Int)≤p.scoreCap)):=by simp [Yd,h1,h2,h3]
 have hl:=(W9 (W7 p) 1048576 1).2.1;have hl1:Vo p≤1048577:=by unfold Vo;omega
 have hA:0≤p.bias*(Vo p:Int)∧p.bias*(Vo p:Int)≤4503603922337792 :=
  ⟨Int.mul_nonneg (by omega) (by omega),Int.le_trans (Int.mul_le_mul f4.2.1 (show (Vo p:Int)≤1048577 by omega) (by omega) (by omega)) (by decide)⟩
 rw[e]at hk;refine xx ?_;refine Zb.ap (Zic p ok h1 h2 fun h5 le5 ap=>?_);obtain⟨q5,_⟩:=ap;by_cases d1:Vo p≤1048576
 ·refine xx ?_;exact ZO (ZP (by simpa [d1] using hk h5 le5))
 ·refine xx ?_;exact ZO (ZP (by simpa [d1] using hk h5 le5))
end Go.X
