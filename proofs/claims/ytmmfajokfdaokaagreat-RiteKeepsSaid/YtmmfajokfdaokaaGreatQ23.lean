/- Lemmas and contracts. Conditions: as each says. -/
import Derived.Test.YtmmfajokfdaokaaGreatQ19
set_option linter.unusedVariables false
set_option linter.unusedSimpArgs false
set_option maxHeartbeats 12800000
set_option maxRecDepth 20000
namespace Go.X
open Go.RowKit Go.Proofs Go.Bl
variable {L:Own} {h:PH} {K:PK}
theorem Yjm {xs:List Int}(v:Value)(hx0:Ints h .u8 v xs)(hk:∀h' r l,PH.le h h'→Zr h' r l→dl l=(Zlw xs).1→K (.tuple #[r,.int .i64 (Zlw xs).2.1,.int .i64 (Zlw xs).2.2]) L h') :
  Zb Tryz.prog 103 [v] L h K:=by
 have hz:=Jd hx0;have ox:=hx0.open;obtain⟨xa,xc,rfl,_,hxl,_⟩:=ox;refine ZR Tryz.func103 rfl (rs:=[_,_,_]) rfl rfl ZY (by kernel_rfl) rfl rfl ?_;refine xx ?_;by_cases c0:(xs.length:Int)>131072
 ·have e:Zlw xs=([],0,3):=by rw[Zlw,if_pos (by omega)]
  rw[e]at hk;refine xx ?_;exact ZO (hk h _ [] (PH.le_refl _) (Zr.nil h) rfl)
 refine xx ?_;refine Zb.apn (Yjx _ hx0 (by omega) fun h2 br rv le2 hr2 ap nd=>?_);simp only[Ap]at ap;obtain⟨ap1,_⟩:=ap;refine xx ?_;refine Zb.apn (VX (most:=64) hr2 (Nat.zero_le _) (by decide) (by decide) ?_);intro ap nd;have hp:=Yt xs (0,0) 64 hz (Nat.zero_le _) (by decide);obtain⟨n,s0,hns⟩:∃n s0,Z7 xs (0,0) 64=(n,s0):=⟨_,_,rfl⟩
 rw[hns]at hp ⊢;simp only at hp ⊢;simp only[rO,List.cons_append,List.nil_append];refine xx ?_;refine Ur (s:=s0) ?_;simp only[rO,List.cons_append,List.nil_append];refine xx ?_;have eb:Zlw xs=if s0.2≠0 then ([],0,s0.2) else if (rdL xs n.toNat s0).2.1≠0 then ([],((rdL xs n.toNat s0).1.length:Int),(rdL xs n.toNat s0).2.1) else if Zmn xs (rdL xs n.toNat s0).2.2≠0 then ([],n,Zmn xs (rdL xs n.toNat s0).2.2) else ((rdL xs n.toNat s0).1,0,0):=by
  rw[Zlw,if_neg (by omega),hns]
 by_cases c1:s0.2=0
 rotate_left
 ·rw[if_pos c1]at eb;rw[eb]at hk;refine xx ?_;exact ZP (ZO (hk h2 _ [] le2 (Zr.nil _) rfl))
 rw[if_neg (by simpa using c1)]at eb;refine xx ?_;obtain⟨m,rfl⟩:=Int.eq_ofNat_of_zero_le hp.2.1;rw[Int.toNat_natCast]at eb;refine YZ (γ:=Nat×Option (Nat×Nat)×List QD×(Nat×Int)×PH) (0,none,[],s0,h2)
  (fun s=>s.1≤m∧okO s.2.1 s.1∧apO s.2.1 (rO br rv s.2.2.2.1 L) s.2.2.2.2∧s.2.2.1.length=s.1∧(∀q∈s.2.2.1,Zl s.2.2.2.2 q.1 q.2)∧s.2.2.2.1.1≤xs.length∧s.2.2.2.1.2=0∧PH.le h2 s.2.2.2.2∧s.2.2.2.2 br=noC ∧
   rdL xs m s0=(dl s.2.2.1++(rdL xs (m-s.1) s.2.2.2.1).1,(rdL xs (m-s.1) s.2.2.2.1).2))
  (fun s=>[(25,.int .i64 s.1),(24,.int .i64 m),(5,.pointer (some ⟨br,0,none⟩)),(6,.int .i64 m),(2,ovs s.2.1 s.1)])
  (fun s=>rO br rv s.2.2.2.1 (oent 177 34 s.2.1 (V2 s.2.2.1) L)) (fun s=>s.2.2.2.2) (fun s=>m-s.1) ?_ ?_ ?_ ?_
 ·exact⟨Nat.zero_le _,rfl,trivial,rfl,(fun q hq=>by cases hq),hp.1,c1,PH.le_refl _,ap1,by simp [dl]⟩
 ·simp [Ent,List.lookup,WM,ovs]
 ·exact Za.refl _ _
 rintro⟨k,o,acc,s,hh⟩ ⟨i1,i2,i3,i4,i5,i6,i7,i8,i9,i10⟩;simp only at i1 i2 i3 i4 i5 i6 i7 i8 i9 i10 ⊢;by_cases c2:k<m
 ·obtain⟨u,hu⟩:∃u,m-k=u+1:=⟨m-k-1,by omega⟩
  rw[hu]at i10;simp only[rO,List.cons_append,List.nil_append];refine xx ?_;refine Zb.apn (Zxf (hr2.up i8) i6 fun h4 bv le4 hb4 ap nd=>?_);have ob4:=hb4.open;obtain⟨x4,y4,rfl,_⟩:=ob4;obtain⟨d,e,s',hd⟩:∃d e s',Wh xs s=(d,e,s'):=⟨_,_,_,rfl⟩
  rw[hd]at hb4 ap nd ⊢;simp only at hb4 ap nd ⊢;simp only[rO,Ap]at ap;obtain⟨u1,u2⟩:=ap;simp only[rO,List.cons_append,List.nil_append];refine xx ?_;refine Z6 fun b1 nb1 zb1=>?_;(try simp only[ZU]at nb1);refine xx ?_;by_cases c3:e=0
  rotate_left
  ·rw[Yds (by rw[hd];exact c3),hd]at i10;simp only[List.append_nil]at i10;rw[i10]at eb;simp only at eb;rw[if_pos c3,Zfy,i4]at eb;rw[eb]at hk;refine xx ?_;exact ZP (ZP (We (ZO (hk h4 _ [] (le2.trans (i8.trans le4)) (Zr.nil _) rfl))))
  subst c3;have hps:=Ypi hz i6 (by rw[hd]);rw[Ykd (by rw[hd]),hd]at i10;rw[hd]at hps;simp only at i10 hps;refine xx ?_;refine Z6 fun b2 nb2 zb2=>?_;(try simp only[ZU]at nb2);refine xx ?_;refine Z8 (t:=93) (e:=177) (sz:=34) (bytes:=288) (by kernel_rfl) Ylb rfl rfl rfl rfl (by decide) [_,_,_] L o k (V2 acc) i2 (by rw[V1,i4]) (Src.own List.mem_cons_self) (m:=1) (news:=qC (.slice x4 d.bits.length y4,d)) rfl (Yly _ rfl) (by simp [maxLen];omega) (by omega) ?_;intro o' j1 j2 j3;refine xx ?_;refine⟨k+1,o',acc++[(.slice x4 d.bits.length y4,d)],s'.1,s'.2,h4,⟨by omega,j1,Z2 (Z2 j2),by simp [i4],?_,hps.1,hps.2.1,i8.trans le4,u1,?_⟩,by omega,by simp [Ent,List.lookup],?_⟩
  ·intro qa qb hq;have hq:(qa,qb)∈acc++[(.slice x4 d.bits.length y4,d)]:=by simpa using hq
   rcases List.mem_append.1 hq with hq|hq
   ·exact(i5 (qa,qb) hq).up le4
   ·have:=List.mem_singleton.1 hq;injection this with e1 e2
    subst e1;subst e2;exact⟨hb4,hps.2.2⟩
  ·rw[i10,show m-(k+1)=u by omega,Yvq];simp [dl]
  ·rw[Zfx,Zgi];exact(Za.tail _ _ _).trans (Za.tail _ _ _)
 ·have hkm:k=m:=by omega
  subst hkm;rw[Nat.sub_self]at i10;simp only[rdL,List.append_nil]at i10;rw[i10]at eb;simp only[ne_eq,not_true_eq_false,if_false]at eb;simp only[rO,List.cons_append,List.nil_append];refine xx ?_;refine Zb.apn (Ybi (s:=s) (hr2.up i8) ?_);intro ap nd;by_cases c4:Zmn xs s=0
  rotate_left
  ·rw[if_pos c4]at eb;rw[eb]at hk;simp only[rO,List.cons_append,List.nil_append];refine xx ?_;exact ZP (We (ZO (hk hh _ [] (le2.trans i8) (Zr.nil _) rfl)))
  ·rw[if_neg (by simpa using c4)]at eb;rw[eb]at hk;rw[c4];simp only[rO,List.cons_append,List.nil_append];refine xx ?_;refine ZP (YE (n:=acc.length) (by rw[i4];exact i2) (V1 acc) (by omega) (Z2 i3) fun h' le sl=>ZO ?_);rw[← i4];exact hk h' _ acc (le2.trans (i8.trans le)) ⟨sl,fun q hq=>(i5 q hq).up le⟩ rfl
end Go.X
