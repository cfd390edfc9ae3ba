/- Lemmas and contracts. Conditions: as each says. -/
import Derived.Test.YtllhopbilpdpkaaGreatQ22
set_option linter.unusedVariables false
set_option linter.unusedSimpArgs false
set_option maxHeartbeats 12800000
set_option maxRecDepth 20000
namespace Go.X
open Go.RowKit Go.Proofs Go.Bl Go.Proofs.Tryz
variable {L:Own} {h:PH} {K:PK}
def Zbj (m:Zn)(now:Int)(qu:Bool):Bool:=decide (m.state=2)&&(decide (m.due≤now)&&(qu||(decide (m.what=3)||decide (m.what=4))))
def Vd (ms:List Zn)(now:Int)(qu:Bool)(k:Nat):List Int:=((List.range k).filter fun i=>Zbj (gr Yc ms i) now qu).map fun i:Nat=>(i:Int)
theorem Zgv (ms:List Zn)(now:Int)(qu:Bool)(k:Nat):(Vd ms now qu k).length≤k:=by
 unfold Vd;rw[List.length_map];exact Nat.le_trans (List.length_filter_le _ _) (by rw[List.length_range];omega)
theorem Zoz (ms:List Zn)(now:Int)(qu:Bool)(k:Nat):Vd ms now qu (k+1)=Vd ms now qu k++(if Zbj (gr Yc ms k) now qu then [(k:Int)] else []):=by
 unfold Vd;rw[List.range_succ,List.filter_append,List.map_append]
 congr 1
 simp only[List.filter]
 cases Zbj (gr Yc ms k) now qu<;>rfl
theorem Zfr {ms:List Zn}{now:Int}{qu:Bool}{k:Nat}{z:Int}(hz:z∈Vd ms now qu k):0≤z∧z<k:=by
 obtain⟨i,hi,rfl⟩:=List.mem_map.1 hz;have:=List.mem_range.1 (List.mem_filter.1 hi).1;omega
theorem Zrv {ql:List QM}{ms:List Zn}(v:Value)(hv:Zh WE 33 h v ql)(hq:ql.map (fun x=>x.2.2)=ms)(hm:WF h ql)(hl:ql.length≤1000)(now:Int)(qu:Bool)
  (hk:∀h' r,PH.le h h'→Ints h' .i64 r (Vd ms now qu ms.length)→K r L h'):Zc prog 220 [v,.int .i64 now,.bool qu] L h K:=by
 have hql:ql.length=ms.length:=by rw[← hq,List.length_map]
 obtain⟨va,vc,rfl,_,_,_,hd⟩:=hv.open;rw[hql]at hd;refine ZS func220 rfl (rs:=[_]) rfl rfl ZW (by kernel_rfl) rfl rfl ?_;refine xx ?_;rw[hql];refine YO (γ:=Nat×Option (Nat×Nat)) (0,none) (fun q=>q.1≤ms.length∧okO q.2 (Vd ms now qu q.1).length∧apO q.2 L h) (fun q=>[(12,.int .i64 q.1),(11,.int .i64 ms.length),(10,.slice va ms.length vc),(7,ovs q.2 (Vd ms now qu q.1).length),(1,.int .i64 now),(2,.bool qu)]) (fun q=>oent 3 1 q.2 ((Vd ms now qu q.1).map (.int .i64)) L) (fun _=>h) (fun q=>ms.length-q.1) ?_ ?_ ?_ ?_
 ·exact⟨Nat.zero_le _,rfl,trivial⟩
 ·simp [Ent,List.lookup,Wo,ovs,Vd]
 ·exact Za.refl _ _
 rintro⟨j,o⟩ ⟨j1,j2,j3⟩;simp only at j1 j2 j3 ⊢;have hrl:=Zgv ms now qu j;by_cases c1:j<ms.length
 ·have hs:=Zoz ms now qu j;obtain⟨qk,hqk⟩:∃qk,qk=gr Z6 ql j:=⟨_,rfl⟩
  have hmem:qk∈ql:=by rw[hqk,Z8 (by omega)];exact List.getElem_mem _
  have hmk:Zu h qk:=hm qk hmem;have hgm:gr Yc ms j=qk.2.2:=by
   have e:ms[j]?=some qk.2.2:=by
    rw[← hq,List.getElem?_map,List.getElem?_eq_getElem (by omega),← Z8 (z:=Z6) (by omega),← hqk]
    rfl
   rw[List.getElem?_eq_getElem c1]at e;rw[Z8 c1];exact Option.some.inj e
  rw[hgm]at hs;have hy:=hmk.y;have hn:=hmk.n;obtain⟨vy,vn,md⟩:=qk;simp only at hy hn hs;obtain⟨ya,yc,rfl,_⟩:=hy.open;obtain⟨na,nc,rfl,_⟩:=hn.open;have hqs:=hqk.symm;simp -dsimp -implicitDefEqProofs (disch:=first|with_reducible assumption|omega) [go_sem,↓Uw Z6 (by decide) hd,hqs,WE,Zbs,List.cons_append,List.nil_append];refine Z2 fun b9 nb9 zb9=>?_;(try simp only[ZT]at nb9);have n9:=Ya nb9;simp -dsimp -implicitDefEqProofs (disch:=first|with_reducible assumption|omega) [go_sem,hqs,WE,Zbs,List.cons_append,List.nil_append];by_cases c2:md.state=2
  ·by_cases c3:md.due≤now
   ·cases qu with
    | true =>
     rw[if_pos (by simp [Zbj,c2,c3])]at hs;refine xx ?_;refine Z2 fun b10 nb10 zb10=>?_;(try simp only[ZT]at nb10);refine xx ?_;refine Z4 (t:=27) (e:=3) (sz:=1) (bytes:=8) (by kernel_rfl) Zds rfl rfl rfl rfl (by decide) [_,_] L o (Vd ms now true j).length _ j2 (by simp) (Src.own List.mem_cons_self) (m:=1) (news:=[.int .i64 j]) rfl (fun u hu=>by simp at hu;subst hu;rfl) (by simp [maxLen];omega) (by omega) ?_;intro o' i1 i2 i3;refine xx ?_;have hsl:(Vd ms now true (j+1)).length=(Vd ms now true j).length+1:=by rw[hs,List.length_append];rfl
     refine⟨j+1,o',⟨by omega,by rw[hsl];exact i1,ZY (ZY i2)⟩,by omega,by simp [Ent,List.lookup,hsl],?_⟩;simp only[hs,List.map_append,List.map_cons,List.map_nil];exact(Za.tail _ _ _).trans (Za.tail _ _ _)
    | false =>
     by_cases c5:md.what=3
     ·rw[if_pos (by simp [Zbj,c2,c3,c5])]at hs;refine xx ?_;refine Z2 fun b10 nb10 zb10=>?_;(try simp only[ZT]at nb10);refine xx ?_;refine Z4 (t:=27) (e:=3) (sz:=1) (bytes:=8) (by kernel_rfl) Zds rfl rfl rfl rfl (by decide) [_,_] L o (Vd ms now false j).length _ j2 (by simp) (Src.own List.mem_cons_self) (m:=1) (news:=[.int .i64 j]) rfl (fun u hu=>by simp at hu;subst hu;rfl) (by simp [maxLen];omega) (by omega) ?_;intro o' i1 i2 i3;refine xx ?_;have hsl:(Vd ms now false (j+1)).length=(Vd ms now false j).length+1:=by rw[hs,List.length_append];rfl
      refine⟨j+1,o',⟨by omega,by rw[hsl];exact i1,ZY (ZY i2)⟩,by omega,by simp [Ent,List.lookup,hsl],?_⟩;simp only[hs,List.map_append,List.map_cons,List.map_nil];exact(Za.tail _ _ _).trans (Za.tail _ _ _)
     ·by_cases c6:md.what=4
      ·rw[if_pos (by simp [Zbj,c2,c3,c5,c6])]at hs;refine xx ?_;refine Z2 fun b10 nb10 zb10=>?_;(try simp only[ZT]at nb10);refine xx ?_;refine Z4 (t:=27) (e:=3) (sz:=1) (bytes:=8) (by kernel_rfl) Zds rfl rfl rfl rfl (by decide) [_,_] L o (Vd ms now false j).length _ j2 (by simp) (Src.own List.mem_cons_self) (m:=1) (news:=[.int .i64 j]) rfl (fun u hu=>by simp at hu;subst hu;rfl) (by simp [maxLen];omega) (by omega) ?_;intro o' i1 i2 i3;refine xx ?_;have hsl:(Vd ms now false (j+1)).length=(Vd ms now false j).length+1:=by rw[hs,List.length_append];rfl
       refine⟨j+1,o',⟨by omega,by rw[hsl];exact i1,ZY (ZY i2)⟩,by omega,by simp [Ent,List.lookup,hsl],?_⟩;simp only[hs,List.map_append,List.map_cons,List.map_nil];exact(Za.tail _ _ _).trans (Za.tail _ _ _)
      ·rw[if_neg (by simp [Zbj,c2,c3,c5,c6]),List.append_nil]at hs;refine xx ?_;exact⟨j+1,o,⟨by omega,by rw[hs];exact j2,j3⟩,by omega,by simp [Ent,List.lookup,hs],by simp only[hs];exact Za.tail _ _ _⟩
   ·rw[if_neg (by simp [Zbj,c2,c3]),List.append_nil]at hs;refine xx ?_;exact⟨j+1,o,⟨by omega,by rw[hs];exact j2,j3⟩,by omega,by simp [Ent,List.lookup,hs],by simp only[hs];exact Za.tail _ _ _⟩
  ·rw[if_neg (by simp [Zbj,c2]),List.append_nil]at hs;refine xx ?_;exact⟨j+1,o,⟨by omega,by rw[hs];exact j2,j3⟩,by omega,by simp [Ent,List.lookup,hs],by simp only[hs];exact Za.tail _ _ _⟩
 ·obtain rfl:j=ms.length:=by omega
  refine xx ?_;refine Wh (n:=(Vd ms now qu ms.length).length) j2 (by simp) (by omega) j3 fun h3 le3 sl=>ZO (hk h3 _ le3 ⟨sl,fun z hz=>?_⟩);have:=Zfr hz;rw[show IntKind.i64.min = -9223372036854775808 by decide,show IntKind.i64.max=9223372036854775807 by decide];omega
def Ybb (q y n a:Int):Bool:=decide (y+n≤18446744073709551615)&&(decide (a≠0)&&(decide (n<y)&&(decide (0≤q) && !decide ((y+n)*10000<q*a))))
theorem Zsf (p:Ze)(ok:Zj p)(y n a:Int)(hy:0≤y∧y≤18446744073709551615)(hn:0≤n∧n≤18446744073709551615)(ha:0≤a∧a≤18446744073709551615)
  (hk:K (.bool (Ybb p.quorum y n a)) L h):Zc prog 318 [Ud p,.agg #[.int .u64 y,.int .u64 n,.int .u64 a]] L h K:=by
 have hq : -9223372036854775808≤p.quorum∧p.quorum≤9223372036854775807:=ok.n _ (by simp [YS]);unfold Ybb at hk;refine ZS func318 rfl (rs:=[_]) rfl rfl ZW (by kernel_rfl) rfl rfl ?_;refine xx ?_;refine Z2 fun b2 nb2 zb2=>?_;(try simp only[ZT]at nb2);refine xx ?_;refine Z2 fun b3 nb3 zb3=>?_;(try simp only[ZT]at nb3);refine xx ?_;refine WI _ _ hy hn ?_;by_cases c1:y+n≤18446744073709551615
 ·rw[Yi c1];rw[decide_eq_true c1]at hk;refine xx ?_;by_cases c2:a=0
  ·rw[decide_eq_false (fun e=>e c2)]at hk;refine xx ?_;exact ZP (ZP (ZO hk))
  ·rw[decide_eq_true c2]at hk;refine xx ?_;by_cases c3:y≤n
   ·rw[decide_eq_false (by omega)]at hk;refine xx ?_;exact ZP (ZP (ZO hk))
   ·rw[decide_eq_true (show n<y by omega)]at hk;refine xx ?_;by_cases c4:p.quorum<0
    ·rw[decide_eq_false (show ¬ 0≤p.quorum by omega)]at hk;refine xx ?_;exact ZP (ZP (ZO hk))
    ·rw[decide_eq_true (show 0≤p.quorum by omega)]at hk;refine xx ?_;refine Zan (y+n) 10000 p.quorum a (by omega) (by decide) (by omega) ha ?_;obtain⟨b,hb⟩:∃b,b=decide ((y+n)*10000<p.quorum*a):=⟨_,rfl⟩
     rw[← hb]at hk ⊢;refine xx ?_;simp only[Bool.true_and]at hk;exact ZP (ZP (ZO hk))
 ·rw[YD c1];rw[decide_eq_false c1]at hk;refine xx ?_;exact ZP (ZP (ZO hk))
theorem Yim (i:Int)(hk:K (.bool true) L h):Zc prog 366 [.int .i64 i] L h K:=by
 refine ZS func366 rfl (rs:=[_]) rfl rfl ZW (by kernel_rfl) rfl rfl ?_;refine xx ?_;exact ZO hk
theorem Yhk {ks:List Int}(kv:Value)(hkv:Ints h .u8 kv ks)(i:Nat)(hi:i≤1000)(b:Nat)(hb:(⟨b,31,[kv],1⟩:Zm)∈L)(hk:K (.bool (Vm ks i)) L h):Zc prog 379 [.int .i64 i,.pointer (some ⟨b,0,none⟩)] L h K:=by
 have hkv0:=hkv;obtain⟨ka,kc,rfl,_⟩:=hkv.open;refine Zc.frame1 hb ?_ hk;refine Z3 func379 rfl (rs:=[_]) rfl rfl ZW (by kernel_rfl) rfl rfl fun ap nd=>?_;have hn:h b=noC:=ap.1;clear ap nd;refine xx ?_;refine GY (bs:=ks) _ i hkv0 (by omega) ?_;refine xx ?_;exact ZO ⟨rfl,rfl,rfl⟩
theorem Zyc {l:List Zb}(v:Value)(hd0:Zh Yv 6 h v l)(hn:l.length≤1000)(hm:∀x∈l,Zf x)
  (hk:∀h' r,PH.le h h'→Ints h' .u64 r ((cP l l.length).map (Zct l))→K r L h'):Zc prog 365 [v,.func (.func 366) #[] #[]] L h K:=by
 obtain⟨a,c,rfl,hc,hl,_,hd⟩:=hd0.open;refine ZS func365 rfl (rs:=[_]) rfl rfl ZW (by kernel_rfl) rfl rfl ?_;refine xx ?_;refine YO (γ:=Nat×Option (Nat×Nat)) (0,none) (fun s=>s.1≤l.length∧okO s.2 (cP l s.1).length∧apO s.2 L h)
  (fun s=>[(10,.int .i64 s.1),(9,.int .i64 l.length),(8,.slice a l.length c),(5,ovs s.2 (cP l s.1).length),(1,.func (.func 366) #[] #[])])
  (fun s=>oent 22 1 s.2 (efC l (cP l s.1)) L) (fun _=>h) (fun s=>l.length-s.1) ?_ ?_ ?_ ?_
 ·exact⟨Nat.zero_le _,rfl,trivial⟩
 ·simp [Ent,List.lookup,Wo,ovs,cP]
 ·exact Za.refl _ _
 rintro⟨k,o1⟩ ⟨i1,i2,i4⟩;simp only at i1 i2 i4 ⊢;by_cases c1:k<l.length
 ·have hcn:(cP l k).length≤k:=VW l k;have hs1:=VZ l k;simp -dsimp -implicitDefEqProofs (disch:=first|with_reducible assumption|omega) [go_sem,↓Uw ZQ (by decide) hd,Yv];refine Z2 fun b7 nb7 zb7=>?_;(try simp only[ZT]at nb7);have n7:=Ya nb7;simp -dsimp -implicitDefEqProofs (disch:=first|with_reducible assumption|omega) [go_sem,Yv];refine W7 (gr ZQ l k) ?_;by_cases c2:VH (gr ZQ l k)=true
  ·have c2':(gr ZQ l k).status=2∨(gr ZQ l k).status=3:=by simpa [VH] using c2
   rw[decide_eq_true c2'];rw[if_pos c2]at hs1;simp -dsimp -implicitDefEqProofs (disch:=first|with_reducible assumption|omega) [go_sem,Yv];refine Yim (k:Int) ?_;simp -dsimp -implicitDefEqProofs (disch:=first|with_reducible assumption|omega) [go_sem,Yv];refine Z2 fun b8 nb8 zb8=>?_;(try simp only[ZT]at nb8);refine xx ?_;refine Z4 (t:=25) (e:=22) (sz:=1) (bytes:=8) (by kernel_rfl) VB rfl rfl rfl rfl (by decide) [_,_] _ o1 (cP l k).length (efC l (cP l k)) i2 (UR _ _) (Src.own List.mem_cons_self) (m:=1) (news:=[.int .u64 (gr ZQ l k).eff]) rfl (by intro u hu;simp only[List.mem_singleton]at hu;subst hu;rfl) (by simp [maxLen];omega) (by omega) ?_;intro o1' j1 j2 j3;have j4:=ZY (ZY j2);have e1:efC l (cP l k)++[.int .u64 (gr ZQ l k).eff]=efC l (cP l (k+1)):=by rw[hs1,GG];rfl
   have e2:(cP l k).length+1=(cP l (k+1)).length:=by rw[hs1];simp
   rw[e2]at j1 ⊢;rw[e1];refine xx ?_;exact⟨k+1,o1',⟨by omega,j1,j4⟩,by omega,by simp [Ent,List.lookup],(Za.tail _ _ _).trans (Za.tail _ _ _)⟩
  ·have c2':¬((gr ZQ l k).status=2∨(gr ZQ l k).status=3):=by simpa [VH] using c2
   rw[decide_eq_false c2'];rw[if_neg c2]at hs1;refine xx ?_;exact⟨k+1,o1,⟨by omega,by rw[hs1];exact i2,i4⟩,by omega,by simp [Ent,List.lookup,hs1],by rw[hs1];exact Za.tail _ _ _⟩
 ·obtain rfl:k=l.length:=by omega
  have hcn:(cP l l.length).length≤l.length:=VW l l.length;refine xx ?_;refine Wh (n:=(cP l l.length).length) i2 (UR _ _) (by omega) i4 fun h1 le1 sl=>ZO (hk h1 _ le1 (Zed hm sl))
theorem Zwc {l:List Zb}{ks:List Int}(v kv:Value)(hd0:Zh Yv 6 h v l)(hn:l.length≤1000)(hm:∀x∈l,Zf x)(hkv:Ints h .u8 kv ks)(b:Nat)(hb:(⟨b,31,[kv],1⟩:Zm)∈L)
  (hk:∀h' r,PH.le h h'→Ints h' .u64 r ((thI l ks l.length).map (Zct l))→K r L h'):Zc prog 365 [v,.func (.func 379) #[] #[.pointer (some ⟨b,0,none⟩)]] L h K:=by
 obtain⟨a,c,rfl,hc,hl,_,hd⟩:=hd0.open;refine ZS func365 rfl (rs:=[_]) rfl rfl ZW (by kernel_rfl) rfl rfl ?_;refine xx ?_;refine YO (γ:=Nat×Option (Nat×Nat)) (0,none) (fun s=>s.1≤l.length∧okO s.2 (thI l ks s.1).length∧apO s.2 L h)
  (fun s=>[(10,.int .i64 s.1),(9,.int .i64 l.length),(8,.slice a l.length c),(5,ovs s.2 (thI l ks s.1).length),(1,.func (.func 379) #[] #[.pointer (some ⟨b,0,none⟩)])])
  (fun s=>oent 22 1 s.2 (efC l (thI l ks s.1)) L) (fun _=>h) (fun s=>l.length-s.1) ?_ ?_ ?_ ?_
 ·exact⟨Nat.zero_le _,rfl,trivial⟩
 ·simp [Ent,List.lookup,Wo,ovs,cP,thI]
 ·exact Za.refl _ _
 rintro⟨k,o1⟩ ⟨i1,i2,i4⟩;simp only at i1 i2 i4 ⊢;have hbo:∀(x y:List Zm),(⟨b,31,[kv],1⟩:Zm)∈x++oent 22 1 o1 (efC l (thI l ks k)) L:=fun x y=>by
  refine List.mem_append_right _ ?_
  cases o1 with
  | none=>exact hb
  | some p=>exact List.mem_cons_of_mem _ hb
 by_cases c1:k<l.length
 ·have hcn:(thI l ks k).length≤k:=J5 l ks k;have hs1:=V4 l ks k;simp -dsimp -implicitDefEqProofs (disch:=first|with_reducible assumption|omega) [go_sem,↓Uw ZQ (by decide) hd,Yv];refine Z2 fun b7 nb7 zb7=>?_;(try simp only[ZT]at nb7);have n7:=Ya nb7;simp -dsimp -implicitDefEqProofs (disch:=first|with_reducible assumption|omega) [go_sem,Yv];refine W7 (gr ZQ l k) ?_;by_cases c2:VH (gr ZQ l k)=true
  ·have c2':(gr ZQ l k).status=2∨(gr ZQ l k).status=3:=by simpa [VH] using c2
   rw[decide_eq_true c2'];rw[c2,Bool.true_and]at hs1;simp -dsimp -implicitDefEqProofs (disch:=first|with_reducible assumption|omega) [go_sem,Yv];refine Yhk kv hkv k (by omega) b (hbo [_] []) ?_;by_cases c3:Vm ks k=true
   ·rw[if_pos c3]at hs1;rw[Yqx c3];simp -dsimp -implicitDefEqProofs (disch:=first|with_reducible assumption|omega) [go_sem,Yv];refine Z2 fun b8 nb8 zb8=>?_;(try simp only[ZT]at nb8);refine xx ?_;refine Z4 (t:=25) (e:=22) (sz:=1) (bytes:=8) (by kernel_rfl) VB rfl rfl rfl rfl (by decide) [_,_] _ o1 (thI l ks k).length (efC l (thI l ks k)) i2 (UR _ _) (Src.own List.mem_cons_self) (m:=1) (news:=[.int .u64 (gr ZQ l k).eff]) rfl (by intro u hu;simp only[List.mem_singleton]at hu;subst hu;rfl) (by simp [maxLen];omega) (by omega) ?_;intro o1' j1 j2 j3;have j4:=ZY (ZY j2);have e1:efC l (thI l ks k)++[.int .u64 (gr ZQ l k).eff]=efC l (thI l ks (k+1)):=by rw[hs1,GG];rfl
    have e2:(thI l ks k).length+1=(thI l ks (k+1)).length:=by rw[hs1];simp
    rw[e2]at j1 ⊢;rw[e1];refine xx ?_;exact⟨k+1,o1',⟨by omega,j1,j4⟩,by omega,by simp [Ent,List.lookup],(Za.tail _ _ _).trans (Za.tail _ _ _)⟩
   ·have c3':Vm ks k=false:=by simpa using c3
    rw[if_neg c3]at hs1;rw[Yqx c3'];refine xx ?_;exact⟨k+1,o1,⟨by omega,by rw[hs1];exact i2,i4⟩,by omega,by simp [Ent,List.lookup,hs1],by rw[hs1];exact Za.tail _ _ _⟩
  ·have c2':¬((gr ZQ l k).status=2∨(gr ZQ l k).status=3):=by simpa [VH] using c2
   rw[decide_eq_false c2'];rw[show VH (gr ZQ l k)=false by simpa using c2,Bool.false_and]at hs1;simp only[Bool.false_eq_true,if_false]at hs1;refine xx ?_;exact⟨k+1,o1,⟨by omega,by rw[hs1];exact i2,i4⟩,by omega,by simp [Ent,List.lookup,hs1],by rw[hs1];exact Za.tail _ _ _⟩
 ·obtain rfl:k=l.length:=by omega
  have hcn:(thI l ks l.length).length≤l.length:=J5 l ks l.length;refine xx ?_;refine Wh (n:=(thI l ks l.length).length) i2 (UR _ _) (by omega) i4 fun h1 le1 sl=>ZO (hk h1 _ le1 (Zed hm sl))
theorem Zbz {l:List Zb}{ks:List Int}(v kv:Value)(hd0:Zh Yv 6 h v l)(hn:l.length≤1000)(hm:∀x∈l,Zf x)(hkv:Ints h .u8 kv ks)
  (hk:∀h',PH.le h h'→K (Zey (Gx l ks)) L h'):Zc prog 367 [v,kv] L h K:=by
 have hkv0:=hkv;obtain⟨ka,kc,rfl,_⟩:=hkv.open;refine ZS func367 rfl (rs:=[_,_]) rfl rfl ZW (by kernel_rfl) rfl rfl ?_;refine xx ?_;refine Z2 fun b3 nb3 zb3=>?_;(try simp only[ZT]at nb3);refine xx ?_;refine Zwc v _ hd0 hn hm hkv0 b3 List.mem_cons_self fun h1 r le1 it=>?_;obtain⟨ra,rc,rfl,_⟩:=it.open;rw[List.length_map]at it;simp only[List.length_map];refine xx ?_;refine Y1 _ it ?_;have hk:=hk h1 le1;rw[show tot ((thI l ks l.length).map (Zct l))=Gx l ks from rfl];by_cases c:Gx l ks≤18446744073709551615
 ·rw[Yi c]at hk ⊢;refine xx ?_;exact ZP (ZO hk)
 ·rw[YD c]at hk ⊢;refine xx ?_;exact ZP (ZO hk)
theorem Znt {l:List Zb}{ys ns:List Int}(v yv nv:Value)(hd0:Zh Yv 6 h v l)(hn:l.length≤1000)(hm:∀x∈l,Zf x)(hy:Ints h .u8 yv ys)(hno:Ints h .u8 nv ns)(hA:U9 l≤18446744073709551615)
  (hk:∀h',PH.le h h'→K (.tuple #[.agg #[.int .u64 (Gx l ys),.int .u64 (Gx l ns),.int .u64 (U9 l)],.int .i64 0]) L h'):Zc prog 317 [v,yv,nv] L h K:=by
 have p1:=Vg (ks:=ys) hm;have p2:=Vg (ks:=ns) hm;refine ZS func317 rfl (rs:=[_,_]) rfl rfl ZW (by kernel_rfl) rfl rfl ?_;refine xx ?_;refine Z2 fun b6 nb6 zb6=>?_;(try simp only[ZT]at nb6);refine xx ?_;refine Zc.ap (Zyc v hd0 hn hm fun h1 r le1 it ap=>?_);simp only[Ap]at ap;obtain⟨a1,_⟩:=ap;obtain⟨ra,rc,rfl,_⟩:=it.open;rw[List.length_map]at it;simp only[List.length_map];refine xx ?_;refine Y1 _ it ?_;rw[show tot ((cP l l.length).map (Zct l))=U9 l from rfl,Yi hA];refine xx ?_;refine Zc.ap (Zbz v yv (hd0.up le1) hn hm (hy.up le1) fun h2 le2 ap=>?_);simp only[Ap]at ap;obtain⟨a2,_⟩:=ap;rw[Yi (show Gx l ys≤18446744073709551615 by omega)];have le12:=le1.trans le2;refine xx ?_;refine Zc.ap (Zbz v nv (hd0.up le12) hn hm (hno.up le12) fun h3 le3 ap=>?_);simp only[Ap]at ap;obtain⟨a3,_⟩:=ap;rw[Yi (show Gx l ns≤18446744073709551615 by omega)];refine xx ?_;exact ZP (ZO (hk h3 (le12.trans le3)))
open Go.RowKit
section
variable {P:Program}
def Zdc (h:PH)(b:Nat):PH:=fun b' o=>if b'=b then none else h b' o
theorem Yar {h h2:PH}{b:Nat}(hb:h b=noC)(le:PH.le h h2):PH.le h (Zdc h2 b):=by
 intro b' o v hv;simp only[Zdc];split
 ·rename_i e;rw[e,hb]at hv;cases hv
 ·exact le b' o v hv
theorem Zvs (h:PH)(b:Nat):Zdc h b b=noC:=by
 funext o
 simp [Zdc,noC]
theorem Zzj {h:PH}{b c:Nat}(hc:h c=noC):Zdc h b c=noC:=by
 funext o
 simp only[Zdc];split
 ·rfl
 ·exact congrFun hc o
theorem Zc.lend {f:FuncId}{args:List Value}{L:Own}{h:PH}{K:PK}{b t cap:Nat}{cs:List Value}(heT:t≠4294967295)
  (hs:Zc P f args L (pub h b cs) fun v L' h'=>K v (⟨b,t,cs,cap⟩::L') (Zdc h' b)):Zc P f args (⟨b,t,cs,cap⟩::L) h K:=by
 refine⟨trivial,fun W hg=>?_⟩;obtain⟨g1,_⟩:=Zde b t cap cs L h heT W hg;have hnd:=hg.nodup;simp only[List.map_cons,List.nodup_cons]at hnd;have hbW:b<W.heap.size:=Gs hg (e:=⟨b,t,cs,cap⟩) List.mem_cons_self;refine(hs.2 W g1).mono fun e W' hh=>?_;obtain⟨v,L2,h2,e1,hk,g2,kp,hfr⟩:=hh;have hb2:∀e∈L2,e.b≠b:=fun e he hb=>by
  rcases hfr e he with hm|hm
  ·exact hnd.1 (by rw[← hb];exact hm)
  ·omega
 refine⟨v,_,_,e1,hk,⟨fun b' o v hv=>?_,fun e he=>?_,?_,fun e he=>?_⟩,⟨kp.os,kp.tape,kp.output,kp.size,fun k hk' hM=>kp.block k hk' fun hm=>hM ?_⟩,fun e he=>?_⟩
 ·simp only[Zdc]at hv;split at hv
  ·cases hv
  ·exact g2.sub _ _ _ hv
 ·rcases List.mem_cons.1 he with rfl|he
  ·show BlkIs _ W'.heap[b]?;rw[kp.block b hbW hnd.1];exact hg.own _ List.mem_cons_self
  ·exact g2.own e he
 ·simp only[List.map_cons,List.nodup_cons];refine⟨fun hm=>?_,g2.nodup⟩;obtain⟨e,he,hb⟩:=List.mem_map.1 hm;exact hb2 e he hb
 ·rcases List.mem_cons.1 he with rfl|he
  ·exact Zvs h2 b
  ·exact Zzj (g2.apart e he)
 ·simp only[List.map_cons];exact List.mem_cons_of_mem _ hm
 ·rcases List.mem_cons.1 he with rfl|he
  ·exact Or.inl (by simp)
  ·rcases hfr e he with hm|hm
   ·exact Or.inl (by simp only[List.map_cons];exact List.mem_cons_of_mem _ hm)
   ·exact Or.inr hm
def Yej (h:PH):Option (Nat×Nat)→PH
 | none=>h
 | some p=>Zdc h p.1
theorem Zc.lend_o {f:FuncId}{args:List Value}{L:Own}{h:PH}{K:PK}{e sz n:Nat}{o:Option (Nat×Nat)}{cs:List Value}(ho:okO o n)(hl:cs.length=n*sz)(hn:n≤9223372036854775807)
  (hs:Sl (Gn h o cs) (ovs o n) n sz cs→Zc P f args L (Gn h o cs) fun v L' h'=>K v (oent e sz o cs L') (Yej h' o)) (heT:e≠4294967295:=by first|decide|omega):Zc P f args (oent e sz o cs L) h K:=by
 have hs:=hs (Vy ho hl hn)
 cases o with
 | none=>exact hs
 | some p=>exact Zc.lend heT hs
end
open Go.RowKit Go.Proofs Go.Bl Go.Proofs.Tryz
variable {L:Own} {h:PH} {K:PK}
theorem Zfc {o:Option (Nat×Nat)}{h h2:PH}{cs:List Value}(ha:apO o L h)(le:PH.le (Gn h o cs) h2):PH.le h (Yej h2 o):=by
 have le2:=(Wm ha cs).trans le
 cases o with
 | none=>exact le2
 | some p=>exact Yar ha.2 le2
theorem Zfo {l:List Zb}{ks:List Int}(om:Option (Nat×Nat))(ho:okO om l.length)(ha:apO om L h)(kv:Value)(hm:∀x∈l,Zf x)(hkv:Ints h .u8 kv ks)(hn:l.length≤1000)(hA:U9 l≤18446744073709551615)
  (hk:∀h',PH.le h h'→K (.tuple #[.int .u64 (Gx l ks),.int .u64 (U9 l),.int .i64 0]) (oent 74 6 om (l.flatMap Yv) L) h') :
  Zc prog 137 [ovs om l.length,kv] (oent 74 6 om (l.flatMap Yv) L) h K :=
 Zc.lend_o ho (Z0 Yg l) (by omega) fun sl=>Zaa _ kv (Zh.pub Yg sl) hm (hkv.up (Wm ha _)) hn hA fun h' le=>hk _ (Zfc ha le)
theorem G5 {l:List Zb}{ys ns:List Int}(om:Option (Nat×Nat))(ho:okO om l.length)(ha:apO om L h)(yv nv:Value)(hn:l.length≤1000)(hm:∀x∈l,Zf x)(hy:Ints h .u8 yv ys)(hno:Ints h .u8 nv ns)(hA:U9 l≤18446744073709551615)
  (hk:∀h',PH.le h h'→K (.tuple #[.agg #[.int .u64 (Gx l ys),.int .u64 (Gx l ns),.int .u64 (U9 l)],.int .i64 0]) (oent 74 6 om (l.flatMap Yv) L) h') :
  Zc prog 317 [ovs om l.length,yv,nv] (oent 74 6 om (l.flatMap Yv) L) h K :=
 Zc.lend_o ho (Z0 Yg l) (by omega) fun sl=>Znt _ yv nv (Zh.pub Yg sl) hn hm (hy.up (Wm ha _)) (hno.up (Wm ha _)) hA fun h' le=>hk _ (Zfc ha le)
theorem Zc.entr {P:Program}{f:FuncId}{args:List Value}{L:Own}{h:PH}{K:PK}(hs:Ap L h→Nd L→Zc P f args L h K):Zc P f args L h K :=
 ⟨trivial,fun W hg=>(hs (Ap.of hg.apart) (Nd.of hg.nodup)).2 W hg⟩
theorem Zrs {e sz:Nat}{o:Option (Nat×Nat)}{xs:List Value}{x:Zm}{L:Own}(nd:Nd (oent e sz o xs (x::L))):apB o x.b∧Nd (oent e sz o xs L):=by
 cases o with
 | none=>exact⟨trivial,nd.2⟩
 | some p=>exact⟨Ne.symm nd.1.1,nd.1.2,nd.2.2⟩
theorem Yt {e sz e2 sz2:Nat}(o o2:Option (Nat×Nat))(xs ys:List Value)(L:Own):(oent e sz o xs (oent e2 sz2 o2 ys L)).Perm (oent e2 sz2 o2 ys (oent e sz o xs L)):=by
 cases o with
 | none=>exact List.Perm.refl _
 | some p=>cases o2 with
  | none=>exact List.Perm.refl _
  | some p2=>exact List.Perm.swap _ _ _
theorem YH {e sz:Nat}{o:Option (Nat×Nat)}{xs:List Value}{L:Own}{h:PH}(ap:Ap (oent e sz o xs L) h):apO o [] h:=by
 cases o with
 | none=>trivial
 | some p=>exact⟨trivial,ap.1⟩
theorem Yp {e sz b:Nat}{o:Option (Nat×Nat)}{xs:List Value}{L:Own}(ha:ZT b (oent e sz o xs L)):apB o b:=by
 cases o with
 | none=>trivial
 | some p=>exact ha.1
theorem Yib {v:SV}{s:Zd}(hs:Zr h v s)(hf:WK s=true):ZF s.members s.purses∧YM s.par=true∧(0≤s.ep∧s.ep≤1073741824)∧(s.purses.length≤64∧s.members.length≤128)∧tot s.purses+tot (s.members.map Zb.bal)+tot (s.dues.map Zg.amt)≤4611686018427387904:=by
 simp only[WK,Bool.and_eq_true]at hf;obtain⟨⟨⟨⟨⟨⟨⟨⟨f1,f2⟩,f3⟩,f4⟩,f5⟩,f6⟩,f7⟩,f8⟩,f9⟩:=hf;simp only[Vo,Bool.and_eq_true,decide_eq_true_eq,List.all_eq_true]at f5;simp only[J0,Bool.and_eq_true,decide_eq_true_eq,List.all_eq_true]at f4;simp only[WY,Bool.and_eq_true,decide_eq_true_eq]at f9;rw[wi_iff]at f2;have f41:=wi_iff.1 f4.1;have p0:=hs.parts;have u1:=hs.ok.u s.burn (by simp);have u2:=hs.ok.u s.treas (by simp);have ht:tot s.purses+tot (s.members.map Zb.bal)+tot (s.dues.map Zg.amt)≤4611686018427387904:=by
  have e:=f9.2;simp only[Zrn,Zyf,Zyl,Zbp,Zyo]at e p0;omega
 have p4:0≤tot (s.dues.map Zg.amt):=p0.2.2.2;refine⟨⟨hs.mo,fun x hx=>?_,fun i=>(hs.p.word i).1,by omega⟩,f1,f2,⟨by omega,f5.1.1.1⟩,ht⟩;have:=(f5.1.1.2 x hx).2;rw[V3,wi_iff]at this;omega
end Go.X
