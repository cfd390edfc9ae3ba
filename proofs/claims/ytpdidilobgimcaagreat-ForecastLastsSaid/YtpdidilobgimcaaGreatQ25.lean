/- Lemmas and contracts. Conditions: as each says. -/
import Derived.Test.YtpdidilobgimcaaGreatQ24
set_option linter.unusedVariables false
set_option linter.unusedSimpArgs false
set_option maxHeartbeats 12800000
set_option maxRecDepth 20000
namespace Go.X
open Go.RowKit Go.Proofs Go.Bl Go.Proofs.Tryz
variable {L:Own} {h:PH} {K:PK}
def Zbp (m:Zm)(now:Int)(qu:Bool):Bool:=decide (m.state=2)&&(decide (m.due≤now)&&(qu||(decide (m.what=3)||decide (m.what=4))))
def WZ (ms:List Zm)(now:Int)(qu:Bool)(k:Nat):List Int:=((List.range k).filter fun i=>Zbp (gr Yg ms i) now qu).map fun i:Nat=>(i:Int)
theorem Zht (ms:List Zm)(now:Int)(qu:Bool)(k:Nat):(WZ ms now qu k).length≤k:=by
 unfold WZ;rw[List.length_map];exact Nat.le_trans (List.length_filter_le _ _) (by rw[List.length_range];omega)
theorem Zoi (ms:List Zm)(now:Int)(qu:Bool)(k:Nat):WZ ms now qu (k+1)=WZ ms now qu k++(if Zbp (gr Yg ms k) now qu then [(k:Int)] else []):=by
 unfold WZ;rw[List.range_succ,List.filter_append,List.map_append]
 congr 1
 simp only[List.filter]
 cases Zbp (gr Yg ms k) now qu<;>rfl
theorem Zgz {ms:List Zm}{now:Int}{qu:Bool}{k:Nat}{z:Int}(hz:z∈WZ ms now qu k):0≤z∧z<k:=by
 obtain⟨i,hi,rfl⟩:=List.mem_map.1 hz;have:=List.mem_range.1 (List.mem_filter.1 hi).1;omega
theorem Zwp {ql:List QM}{ms:List Zm}(v:Value)(hv:Zj Wk 33 h v ql)(hq:ql.map (fun x=>x.2.2)=ms)(hm:Wn h ql)(hl:ql.length≤1000)(now:Int)(qu:Bool)
  (hk:∀h' r,PH.le h h'→Ints h' .i64 r (WZ ms now qu ms.length)→K r L h'):Zb prog 209 [v,.int .i64 now,.bool qu] L h K:=by
 have hql:ql.length=ms.length:=by rw[← hq,List.length_map]
 obtain⟨va,vc,rfl,_,_,_,hd⟩:=hv.open;rw[hql]at hd;refine ZR func209 rfl (rs:=[_]) rfl rfl ZW (by kernel_rfl) rfl rfl ?_;refine xx ?_;rw[hql];refine YJ (γ:=Nat×Option (Nat×Nat)) (0,none) (fun q=>q.1≤ms.length∧okO q.2 (WZ ms now qu q.1).length∧apO q.2 L h) (fun q=>[(12,.int .i64 q.1),(11,.int .i64 ms.length),(10,.slice va ms.length vc),(7,ovs q.2 (WZ ms now qu q.1).length),(1,.int .i64 now),(2,.bool qu)]) (fun q=>oent 3 1 q.2 ((WZ ms now qu q.1).map (.int .i64)) L) (fun _=>h) (fun q=>ms.length-q.1) ?_ ?_ ?_ ?_
 ·exact⟨Nat.zero_le _,rfl,trivial⟩
 ·simp [Ent,List.lookup,Wv,ovs,WZ]
 ·exact Za.refl _ _
 rintro⟨j,o⟩ ⟨j1,j2,j3⟩;simp only at j1 j2 j3 ⊢;have hrl:=Zht ms now qu j;by_cases c1:j<ms.length
 ·have hs:=Zoi ms now qu j;obtain⟨qk,hqk⟩:∃qk,qk=gr Z4 ql j:=⟨_,rfl⟩
  have hmem:qk∈ql:=by rw[hqk,Yc (by omega)];exact List.getElem_mem _
  have hmk:Zu h qk:=hm qk hmem;have hgm:gr Yg ms j=qk.2.2:=by
   have e:ms[j]?=some qk.2.2:=by
    rw[← hq,List.getElem?_map,List.getElem?_eq_getElem (by omega),← Yc (z:=Z4) (by omega),← hqk]
    rfl
   rw[List.getElem?_eq_getElem c1]at e;rw[Yc c1];exact Option.some.inj e
  rw[hgm]at hs;have hy:=hmk.y;have hn:=hmk.n;obtain⟨vy,vn,md⟩:=qk;simp only at hy hn hs;obtain⟨ya,yc,rfl,_⟩:=hy.open;obtain⟨na,nc,rfl,_⟩:=hn.open;have hqs:=hqk.symm;simp -dsimp -implicitDefEqProofs (disch:=first|with_reducible assumption|omega) [go_sem,↓Zci Z4 (by decide) hd,hqs,Wk,Jm,List.cons_append,List.nil_append];refine Z0 fun b9 nb9 zb9=>?_;(try simp only[ZU]at nb9);have n9:=Yt nb9;simp -dsimp -implicitDefEqProofs (disch:=first|with_reducible assumption|omega) [go_sem,hqs,Wk,Jm,List.cons_append,List.nil_append];by_cases c2:md.state=2
  ·by_cases c3:md.due≤now
   ·cases qu with
    | true =>
     rw[if_pos (by simp [Zbp,c2,c3])]at hs;refine xx ?_;refine Z0 fun b10 nb10 zb10=>?_;(try simp only[ZU]at nb10);refine xx ?_;refine Z2 (t:=27) (e:=3) (sz:=1) (bytes:=8) (by kernel_rfl) JM rfl rfl rfl rfl (by decide) [_,_] L o (WZ ms now true j).length _ j2 (by simp) (Src.own List.mem_cons_self) (m:=1) (news:=[.int .i64 j]) rfl (fun u hu=>by simp at hu;subst hu;rfl) (by simp [maxLen];omega) (by omega) ?_;intro o' i1 i2 i3;refine xx ?_;have hsl:(WZ ms now true (j+1)).length=(WZ ms now true j).length+1:=by rw[hs,List.length_append];rfl
     refine⟨j+1,o',⟨by omega,by rw[hsl];exact i1,ZY (ZY i2)⟩,by omega,by simp [Ent,List.lookup,hsl],?_⟩;simp only[hs,List.map_append,List.map_cons,List.map_nil];exact(Za.tail _ _ _).trans (Za.tail _ _ _)
    | false =>
     by_cases c5:md.what=3
     ·rw[if_pos (by simp [Zbp,c2,c3,c5])]at hs;refine xx ?_;refine Z0 fun b10 nb10 zb10=>?_;(try simp only[ZU]at nb10);refine xx ?_;refine Z2 (t:=27) (e:=3) (sz:=1) (bytes:=8) (by kernel_rfl) JM rfl rfl rfl rfl (by decide) [_,_] L o (WZ ms now false j).length _ j2 (by simp) (Src.own List.mem_cons_self) (m:=1) (news:=[.int .i64 j]) rfl (fun u hu=>by simp at hu;subst hu;rfl) (by simp [maxLen];omega) (by omega) ?_;intro o' i1 i2 i3;refine xx ?_;have hsl:(WZ ms now false (j+1)).length=(WZ ms now false j).length+1:=by rw[hs,List.length_append];rfl
      refine⟨j+1,o',⟨by omega,by rw[hsl];exact i1,ZY (ZY i2)⟩,by omega,by simp [Ent,List.lookup,hsl],?_⟩;simp only[hs,List.map_append,List.map_cons,List.map_nil];exact(Za.tail _ _ _).trans (Za.tail _ _ _)
     ·by_cases c6:md.what=4
      ·rw[if_pos (by simp [Zbp,c2,c3,c5,c6])]at hs;refine xx ?_;refine Z0 fun b10 nb10 zb10=>?_;(try simp only[ZU]at nb10);refine xx ?_;refine Z2 (t:=27) (e:=3) (sz:=1) (bytes:=8) (by kernel_rfl) JM rfl rfl rfl rfl (by decide) [_,_] L o (WZ ms now false j).length _ j2 (by simp) (Src.own List.mem_cons_self) (m:=1) (news:=[.int .i64 j]) rfl (fun u hu=>by simp at hu;subst hu;rfl) (by simp [maxLen];omega) (by omega) ?_;intro o' i1 i2 i3;refine xx ?_;have hsl:(WZ ms now false (j+1)).length=(WZ ms now false j).length+1:=by rw[hs,List.length_append];rfl
       refine⟨j+1,o',⟨by omega,by rw[hsl];exact i1,ZY (ZY i2)⟩,by omega,by simp [Ent,List.lookup,hsl],?_⟩;simp only[hs,List.map_append,List.map_cons,List.map_nil];exact(Za.tail _ _ _).trans (Za.tail _ _ _)
      ·rw[if_neg (by simp [Zbp,c2,c3,c5,c6]),List.append_nil]at hs;refine xx ?_;exact⟨j+1,o,⟨by omega,by rw[hs];exact j2,j3⟩,by omega,by simp [Ent,List.lookup,hs],by simp only[hs];exact Za.tail _ _ _⟩
   ·rw[if_neg (by simp [Zbp,c2,c3]),List.append_nil]at hs;refine xx ?_;exact⟨j+1,o,⟨by omega,by rw[hs];exact j2,j3⟩,by omega,by simp [Ent,List.lookup,hs],by simp only[hs];exact Za.tail _ _ _⟩
  ·rw[if_neg (by simp [Zbp,c2]),List.append_nil]at hs;refine xx ?_;exact⟨j+1,o,⟨by omega,by rw[hs];exact j2,j3⟩,by omega,by simp [Ent,List.lookup,hs],by simp only[hs];exact Za.tail _ _ _⟩
 ·obtain rfl:j=ms.length:=by omega
  refine xx ?_;refine YT (n:=(WZ ms now qu ms.length).length) j2 (by simp) (by omega) j3 fun h3 le3 sl=>ZP (hk h3 _ le3 ⟨sl,fun z hz=>?_⟩);have:=Zgz hz;rw[show IntKind.i64.min = -9223372036854775808 by decide,show IntKind.i64.max=9223372036854775807 by decide];omega
def Zzu (q y n a:Int):Bool:=decide (y+n≤18446744073709551615)&&(decide (a≠0)&&(decide (n<y)&&(decide (0≤q) && !decide ((y+n)*10000<q*a))))
theorem Zrd (p:Zd)(ok:Zh p)(y n a:Int)(hy:0≤y∧y≤18446744073709551615)(hn:0≤n∧n≤18446744073709551615)(ha:0≤a∧a≤18446744073709551615)
  (hk:K (.bool (Zzu p.quorum y n a)) L h):Zb prog 313 [W5 p,.agg #[.int .u64 y,.int .u64 n,.int .u64 a]] L h K:=by
 have hq : -9223372036854775808≤p.quorum∧p.quorum≤9223372036854775807:=ok.n _ (by simp [Y9]);unfold Zzu at hk;refine ZR func313 rfl (rs:=[_]) rfl rfl ZW (by kernel_rfl) rfl rfl ?_;refine xx ?_;refine Z0 fun b2 nb2 zb2=>?_;(try simp only[ZU]at nb2);refine xx ?_;refine Z0 fun b3 nb3 zb3=>?_;(try simp only[ZU]at nb3);refine xx ?_;refine WD _ _ hy hn ?_;by_cases c1:y+n≤18446744073709551615
 ·rw[YC c1];rw[decide_eq_true c1]at hk;refine xx ?_;by_cases c2:a=0
  ·rw[decide_eq_false (fun e=>e c2)]at hk;refine xx ?_;exact ZO (ZO (ZP hk))
  ·rw[decide_eq_true c2]at hk;refine xx ?_;by_cases c3:y≤n
   ·rw[decide_eq_false (by omega)]at hk;refine xx ?_;exact ZO (ZO (ZP hk))
   ·rw[decide_eq_true (show n<y by omega)]at hk;refine xx ?_;by_cases c4:p.quorum<0
    ·rw[decide_eq_false (show ¬ 0≤p.quorum by omega)]at hk;refine xx ?_;exact ZO (ZO (ZP hk))
    ·rw[decide_eq_true (show 0≤p.quorum by omega)]at hk;refine xx ?_;refine Zal (y+n) 10000 p.quorum a (by omega) (by decide) (by omega) ha ?_;obtain⟨b,hb⟩:∃b,b=decide ((y+n)*10000<p.quorum*a):=⟨_,rfl⟩
     rw[← hb]at hk ⊢;refine xx ?_;simp only[Bool.true_and]at hk;exact ZO (ZO (ZP hk))
 ·rw[Wh c1];rw[decide_eq_false c1]at hk;refine xx ?_;exact ZO (ZO (ZP hk))
theorem Yfn (i:Int)(hk:K (.bool true) L h):Zb prog 360 [.int .i64 i] L h K:=by
 refine ZR func360 rfl (rs:=[_]) rfl rfl ZW (by kernel_rfl) rfl rfl ?_;refine xx ?_;exact ZP hk
theorem Ygp {ks:List Int}(kv:Value)(hkv:Ints h .u8 kv ks)(i:Nat)(hi:i≤1000)(b:Nat)(hb:(⟨b,31,[kv],1⟩:Zl)∈L)(hk:K (.bool (Vb ks i)) L h):Zb prog 373 [.int .i64 i,.pointer (some ⟨b,0,none⟩)] L h K:=by
 have hkv0:=hkv;obtain⟨ka,kc,rfl,_⟩:=hkv.open;refine Zb.frame1 hb ?_ hk;refine Z5 func373 rfl (rs:=[_]) rfl rfl ZW (by kernel_rfl) rfl rfl fun ap nd=>?_;have hn:h b=noC:=ap.1;clear ap nd;refine xx ?_;refine Zab (bs:=ks) _ i hkv0 (by omega) ?_;refine xx ?_;exact ZP ⟨rfl,rfl,rfl⟩
theorem Zsh {l:List Zc}(v:Value)(hd0:Zj YE 6 h v l)(hn:l.length≤1000)(hm:∀x∈l,Ze x)
  (hk:∀h' r,PH.le h h'→Ints h' .u64 r ((cP l l.length).map (Zie l))→K r L h'):Zb prog 359 [v,.func (.func 360) #[] #[]] L h K:=by
 obtain⟨a,c,rfl,hc,hl,_,hd⟩:=hd0.open;refine ZR func359 rfl (rs:=[_]) rfl rfl ZW (by kernel_rfl) rfl rfl ?_;refine xx ?_;refine YJ (γ:=Nat×Option (Nat×Nat)) (0,none) (fun s=>s.1≤l.length∧okO s.2 (cP l s.1).length∧apO s.2 L h)
  (fun s=>[(10,.int .i64 s.1),(9,.int .i64 l.length),(8,.slice a l.length c),(5,ovs s.2 (cP l s.1).length),(1,.func (.func 360) #[] #[])])
  (fun s=>oent 22 1 s.2 (efC l (cP l s.1)) L) (fun _=>h) (fun s=>l.length-s.1) ?_ ?_ ?_ ?_
 ·exact⟨Nat.zero_le _,rfl,trivial⟩
 ·simp [Ent,List.lookup,Wv,ovs,cP]
 ·exact Za.refl _ _
 rintro⟨k,o1⟩ ⟨i1,i2,i4⟩;simp only at i1 i2 i4 ⊢;by_cases c1:k<l.length
 ·have hcn:(cP l k).length≤k:=Zck l k;have hs1:=Zjv l k;simp -dsimp -implicitDefEqProofs (disch:=first|with_reducible assumption|omega) [go_sem,↓Zci ZT (by decide) hd,YE];refine Z0 fun b7 nb7 zb7=>?_;(try simp only[ZU]at nb7);have n7:=Yt nb7;simp -dsimp -implicitDefEqProofs (disch:=first|with_reducible assumption|omega) [go_sem,YE];refine UW (gr ZT l k) ?_;by_cases c2:Gt (gr ZT l k)=true
  ·have c2':(gr ZT l k).status=2∨(gr ZT l k).status=3:=by simpa [Gt] using c2
   rw[decide_eq_true c2'];rw[if_pos c2]at hs1;simp -dsimp -implicitDefEqProofs (disch:=first|with_reducible assumption|omega) [go_sem,YE];refine Yfn (k:Int) ?_;simp -dsimp -implicitDefEqProofs (disch:=first|with_reducible assumption|omega) [go_sem,YE];refine Z0 fun b8 nb8 zb8=>?_;(try simp only[ZU]at nb8);refine xx ?_;refine Z2 (t:=25) (e:=22) (sz:=1) (bytes:=8) (by kernel_rfl) Ux rfl rfl rfl rfl (by decide) [_,_] _ o1 (cP l k).length (efC l (cP l k)) i2 (Uy _ _) (Src.own List.mem_cons_self) (m:=1) (news:=[.int .u64 (gr ZT l k).eff]) rfl (by intro u hu;simp only[List.mem_singleton]at hu;subst hu;rfl) (by simp [maxLen];omega) (by omega) ?_;intro o1' j1 j2 j3;have j4:=ZY (ZY j2);have e1:efC l (cP l k)++[.int .u64 (gr ZT l k).eff]=efC l (cP l (k+1)):=by rw[hs1,GF];rfl
   have e2:(cP l k).length+1=(cP l (k+1)).length:=by rw[hs1];simp
   rw[e2]at j1 ⊢;rw[e1];refine xx ?_;exact⟨k+1,o1',⟨by omega,j1,j4⟩,by omega,by simp [Ent,List.lookup],(Za.tail _ _ _).trans (Za.tail _ _ _)⟩
  ·have c2':¬((gr ZT l k).status=2∨(gr ZT l k).status=3):=by simpa [Gt] using c2
   rw[decide_eq_false c2'];rw[if_neg c2]at hs1;refine xx ?_;exact⟨k+1,o1,⟨by omega,by rw[hs1];exact i2,i4⟩,by omega,by simp [Ent,List.lookup,hs1],by rw[hs1];exact Za.tail _ _ _⟩
 ·obtain rfl:k=l.length:=by omega
  have hcn:(cP l l.length).length≤l.length:=Zck l l.length;refine xx ?_;refine YT (n:=(cP l l.length).length) i2 (Uy _ _) (by omega) i4 fun h1 le1 sl=>ZP (hk h1 _ le1 (Zdy hm sl))
theorem Zsz {l:List Zc}{ks:List Int}(v kv:Value)(hd0:Zj YE 6 h v l)(hn:l.length≤1000)(hm:∀x∈l,Ze x)(hkv:Ints h .u8 kv ks)(b:Nat)(hb:(⟨b,31,[kv],1⟩:Zl)∈L)
  (hk:∀h' r,PH.le h h'→Ints h' .u64 r ((thI l ks l.length).map (Zie l))→K r L h'):Zb prog 359 [v,.func (.func 373) #[] #[.pointer (some ⟨b,0,none⟩)]] L h K:=by
 obtain⟨a,c,rfl,hc,hl,_,hd⟩:=hd0.open;refine ZR func359 rfl (rs:=[_]) rfl rfl ZW (by kernel_rfl) rfl rfl ?_;refine xx ?_;refine YJ (γ:=Nat×Option (Nat×Nat)) (0,none) (fun s=>s.1≤l.length∧okO s.2 (thI l ks s.1).length∧apO s.2 L h)
  (fun s=>[(10,.int .i64 s.1),(9,.int .i64 l.length),(8,.slice a l.length c),(5,ovs s.2 (thI l ks s.1).length),(1,.func (.func 373) #[] #[.pointer (some ⟨b,0,none⟩)])])
  (fun s=>oent 22 1 s.2 (efC l (thI l ks s.1)) L) (fun _=>h) (fun s=>l.length-s.1) ?_ ?_ ?_ ?_
 ·exact⟨Nat.zero_le _,rfl,trivial⟩
 ·simp [Ent,List.lookup,Wv,ovs,cP,thI]
 ·exact Za.refl _ _
 rintro⟨k,o1⟩ ⟨i1,i2,i4⟩;simp only at i1 i2 i4 ⊢;have hbo:∀(x y:List Zl),(⟨b,31,[kv],1⟩:Zl)∈x++oent 22 1 o1 (efC l (thI l ks k)) L:=fun x y=>by
  refine List.mem_append_right _ ?_
  cases o1 with
  | none=>exact hb
  | some p=>exact List.mem_cons_of_mem _ hb
 by_cases c1:k<l.length
 ·have hcn:(thI l ks k).length≤k:=G0 l ks k;have hs1:=GE l ks k;simp -dsimp -implicitDefEqProofs (disch:=first|with_reducible assumption|omega) [go_sem,↓Zci ZT (by decide) hd,YE];refine Z0 fun b7 nb7 zb7=>?_;(try simp only[ZU]at nb7);have n7:=Yt nb7;simp -dsimp -implicitDefEqProofs (disch:=first|with_reducible assumption|omega) [go_sem,YE];refine UW (gr ZT l k) ?_;by_cases c2:Gt (gr ZT l k)=true
  ·have c2':(gr ZT l k).status=2∨(gr ZT l k).status=3:=by simpa [Gt] using c2
   rw[decide_eq_true c2'];rw[c2,Bool.true_and]at hs1;simp -dsimp -implicitDefEqProofs (disch:=first|with_reducible assumption|omega) [go_sem,YE];refine Ygp kv hkv k (by omega) b (hbo [_] []) ?_;by_cases c3:Vb ks k=true
   ·rw[if_pos c3]at hs1;rw[Yrr c3];simp -dsimp -implicitDefEqProofs (disch:=first|with_reducible assumption|omega) [go_sem,YE];refine Z0 fun b8 nb8 zb8=>?_;(try simp only[ZU]at nb8);refine xx ?_;refine Z2 (t:=25) (e:=22) (sz:=1) (bytes:=8) (by kernel_rfl) Ux rfl rfl rfl rfl (by decide) [_,_] _ o1 (thI l ks k).length (efC l (thI l ks k)) i2 (Uy _ _) (Src.own List.mem_cons_self) (m:=1) (news:=[.int .u64 (gr ZT l k).eff]) rfl (by intro u hu;simp only[List.mem_singleton]at hu;subst hu;rfl) (by simp [maxLen];omega) (by omega) ?_;intro o1' j1 j2 j3;have j4:=ZY (ZY j2);have e1:efC l (thI l ks k)++[.int .u64 (gr ZT l k).eff]=efC l (thI l ks (k+1)):=by rw[hs1,GF];rfl
    have e2:(thI l ks k).length+1=(thI l ks (k+1)).length:=by rw[hs1];simp
    rw[e2]at j1 ⊢;rw[e1];refine xx ?_;exact⟨k+1,o1',⟨by omega,j1,j4⟩,by omega,by simp [Ent,List.lookup],(Za.tail _ _ _).trans (Za.tail _ _ _)⟩
   ·have c3':Vb ks k=false:=by simpa using c3
    rw[if_neg c3]at hs1;rw[Yrr c3'];refine xx ?_;exact⟨k+1,o1,⟨by omega,by rw[hs1];exact i2,i4⟩,by omega,by simp [Ent,List.lookup,hs1],by rw[hs1];exact Za.tail _ _ _⟩
  ·have c2':¬((gr ZT l k).status=2∨(gr ZT l k).status=3):=by simpa [Gt] using c2
   rw[decide_eq_false c2'];rw[show Gt (gr ZT l k)=false by simpa using c2,Bool.false_and]at hs1;simp only[Bool.false_eq_true,if_false]at hs1;refine xx ?_;exact⟨k+1,o1,⟨by omega,by rw[hs1];exact i2,i4⟩,by omega,by simp [Ent,List.lookup,hs1],by rw[hs1];exact Za.tail _ _ _⟩
 ·obtain rfl:k=l.length:=by omega
  have hcn:(thI l ks l.length).length≤l.length:=G0 l ks l.length;refine xx ?_;refine YT (n:=(thI l ks l.length).length) i2 (Uy _ _) (by omega) i4 fun h1 le1 sl=>ZP (hk h1 _ le1 (Zdy hm sl))
theorem Zcp {l:List Zc}{ks:List Int}(v kv:Value)(hd0:Zj YE 6 h v l)(hn:l.length≤1000)(hm:∀x∈l,Ze x)(hkv:Ints h .u8 kv ks)
  (hk:∀h',PH.le h h'→K (Zog (GN l ks)) L h'):Zb prog 361 [v,kv] L h K:=by
 have hkv0:=hkv;obtain⟨ka,kc,rfl,_⟩:=hkv.open;refine ZR func361 rfl (rs:=[_,_]) rfl rfl ZW (by kernel_rfl) rfl rfl ?_;refine xx ?_;refine Z0 fun b3 nb3 zb3=>?_;(try simp only[ZU]at nb3);refine xx ?_;refine Zsz v _ hd0 hn hm hkv0 b3 List.mem_cons_self fun h1 r le1 it=>?_;obtain⟨ra,rc,rfl,_⟩:=it.open;rw[List.length_map]at it;simp only[List.length_map];refine xx ?_;refine Ws _ it ?_;have hk:=hk h1 le1;rw[show tot ((thI l ks l.length).map (Zie l))=GN l ks from rfl];by_cases c:GN l ks≤18446744073709551615
 ·rw[YC c]at hk ⊢;refine xx ?_;exact ZO (ZP hk)
 ·rw[Wh c]at hk ⊢;refine xx ?_;exact ZO (ZP hk)
theorem Zob {l:List Zc}{ys ns:List Int}(v yv nv:Value)(hd0:Zj YE 6 h v l)(hn:l.length≤1000)(hm:∀x∈l,Ze x)(hy:Ints h .u8 yv ys)(hno:Ints h .u8 nv ns)(hA:Zap l≤18446744073709551615)
  (hk:∀h',PH.le h h'→K (.tuple #[.agg #[.int .u64 (GN l ys),.int .u64 (GN l ns),.int .u64 (Zap l)],.int .i64 0]) L h'):Zb prog 312 [v,yv,nv] L h K:=by
 have p1:=Jz (ks:=ys) hm;have p2:=Jz (ks:=ns) hm;refine ZR func312 rfl (rs:=[_,_]) rfl rfl ZW (by kernel_rfl) rfl rfl ?_;refine xx ?_;refine Z0 fun b6 nb6 zb6=>?_;(try simp only[ZU]at nb6);refine xx ?_;refine Zb.ap (Zsh v hd0 hn hm fun h1 r le1 it ap=>?_);simp only[Ap]at ap;obtain⟨a1,_⟩:=ap;obtain⟨ra,rc,rfl,_⟩:=it.open;rw[List.length_map]at it;simp only[List.length_map];refine xx ?_;refine Ws _ it ?_;rw[show tot ((cP l l.length).map (Zie l))=Zap l from rfl,YC hA];refine xx ?_;refine Zb.ap (Zcp v yv (hd0.up le1) hn hm (hy.up le1) fun h2 le2 ap=>?_);simp only[Ap]at ap;obtain⟨a2,_⟩:=ap;rw[YC (show GN l ys≤18446744073709551615 by omega)];have le12:=le1.trans le2;refine xx ?_;refine Zb.ap (Zcp v nv (hd0.up le12) hn hm (hno.up le12) fun h3 le3 ap=>?_);simp only[Ap]at ap;obtain⟨a3,_⟩:=ap;rw[YC (show GN l ns≤18446744073709551615 by omega)];refine xx ?_;exact ZO (ZP (hk h3 (le12.trans le3)))
open Go.RowKit
section
variable {P:Program}
def Zdn (h:PH)(b:Nat):PH:=fun b' o=>if b'=b then none else h b' o
theorem Yag {h h2:PH}{b:Nat}(hb:h b=noC)(le:PH.le h h2):PH.le h (Zdn h2 b):=by
 intro b' o v hv;simp only[Zdn];split
 ·rename_i e;rw[e,hb]at hv;cases hv
 ·exact le b' o v hv
theorem Zsx (h:PH)(b:Nat):Zdn h b b=noC:=by
 funext o
 simp [Zdn,noC]
theorem Zyh {h:PH}{b c:Nat}(hc:h c=noC):Zdn h b c=noC:=by
 funext o
 simp only[Zdn];split
 ·rfl
 ·exact congrFun hc o
theorem Zb.lend {f:FuncId}{args:List Value}{L:Own}{h:PH}{K:PK}{b t cap:Nat}{cs:List Value}(heT:t≠4294967295)
  (hs:Zb P f args L (pub h b cs) fun v L' h'=>K v (⟨b,t,cs,cap⟩::L') (Zdn h' b)):Zb P f args (⟨b,t,cs,cap⟩::L) h K:=by
 refine⟨trivial,fun W hg=>?_⟩;obtain⟨g1,_⟩:=Zda b t cap cs L h heT W hg;have hnd:=hg.nodup;simp only[List.map_cons,List.nodup_cons]at hnd;have hbW:b<W.heap.size:=Gm hg (e:=⟨b,t,cs,cap⟩) List.mem_cons_self;refine(hs.2 W g1).mono fun e W' hh=>?_;obtain⟨v,L2,h2,e1,hk,g2,kp,hfr⟩:=hh;have hb2:∀e∈L2,e.b≠b:=fun e he hb=>by
  rcases hfr e he with hm|hm
  ·exact hnd.1 (by rw[← hb];exact hm)
  ·omega
 refine⟨v,_,_,e1,hk,⟨fun b' o v hv=>?_,fun e he=>?_,?_,fun e he=>?_⟩,⟨kp.os,kp.tape,kp.output,kp.size,fun k hk' hM=>kp.block k hk' fun hm=>hM ?_⟩,fun e he=>?_⟩
 ·simp only[Zdn]at hv;split at hv
  ·cases hv
  ·exact g2.sub _ _ _ hv
 ·rcases List.mem_cons.1 he with rfl|he
  ·show BlkIs _ W'.heap[b]?;rw[kp.block b hbW hnd.1];exact hg.own _ List.mem_cons_self
  ·exact g2.own e he
 ·simp only[List.map_cons,List.nodup_cons];refine⟨fun hm=>?_,g2.nodup⟩;obtain⟨e,he,hb⟩:=List.mem_map.1 hm;exact hb2 e he hb
 ·rcases List.mem_cons.1 he with rfl|he
  ·exact Zsx h2 b
  ·exact Zyh (g2.apart e he)
 ·simp only[List.map_cons];exact List.mem_cons_of_mem _ hm
 ·rcases List.mem_cons.1 he with rfl|he
  ·exact Or.inl (by simp)
  ·rcases hfr e he with hm|hm
   ·exact Or.inl (by simp only[List.map_cons];exact List.mem_cons_of_mem _ hm)
   ·exact Or.inr hm
def Yck (h:PH):Option (Nat×Nat)→PH
 | none=>h
 | some p=>Zdn h p.1
theorem Zb.lend_o {f:FuncId}{args:List Value}{L:Own}{h:PH}{K:PK}{e sz n:Nat}{o:Option (Nat×Nat)}{cs:List Value}(ho:okO o n)(hl:cs.length=n*sz)(hn:n≤9223372036854775807)
  (hs:Sl (Jq h o cs) (ovs o n) n sz cs→Zb P f args L (Jq h o cs) fun v L' h'=>K v (oent e sz o cs L') (Yck h' o)) (heT:e≠4294967295:=by first|decide|omega):Zb P f args (oent e sz o cs L) h K:=by
 have hs:=hs (Vc ho hl hn)
 cases o with
 | none=>exact hs
 | some p=>exact Zb.lend heT hs
end
open Go.RowKit Go.Proofs Go.Bl Go.Proofs.Tryz
variable {L:Own} {h:PH} {K:PK}
theorem Zhb {o:Option (Nat×Nat)}{h h2:PH}{cs:List Value}(ha:apO o L h)(le:PH.le (Jq h o cs) h2):PH.le h (Yck h2 o):=by
 have le2:=(Wa ha cs).trans le
 cases o with
 | none=>exact le2
 | some p=>exact Yag ha.2 le2
theorem Zgi {l:List Zc}{ks:List Int}(om:Option (Nat×Nat))(ho:okO om l.length)(ha:apO om L h)(kv:Value)(hm:∀x∈l,Ze x)(hkv:Ints h .u8 kv ks)(hn:l.length≤1000)(hA:Zap l≤18446744073709551615)
  (hk:∀h',PH.le h h'→K (.tuple #[.int .u64 (GN l ks),.int .u64 (Zap l),.int .i64 0]) (oent 100 6 om (l.flatMap YE) L) h') :
  Zb prog 187 [ovs om l.length,kv] (oent 100 6 om (l.flatMap YE) L) h K :=
 Zb.lend_o ho (Z1 Z9 l) (by omega) fun sl=>Zia _ kv (Zj.pub Z9 sl) hm (hkv.up (Wa ha _)) hn hA fun h' le=>hk _ (Zhb ha le)
theorem G8 {l:List Zc}{ys ns:List Int}(om:Option (Nat×Nat))(ho:okO om l.length)(ha:apO om L h)(yv nv:Value)(hn:l.length≤1000)(hm:∀x∈l,Ze x)(hy:Ints h .u8 yv ys)(hno:Ints h .u8 nv ns)(hA:Zap l≤18446744073709551615)
  (hk:∀h',PH.le h h'→K (.tuple #[.agg #[.int .u64 (GN l ys),.int .u64 (GN l ns),.int .u64 (Zap l)],.int .i64 0]) (oent 100 6 om (l.flatMap YE) L) h') :
  Zb prog 312 [ovs om l.length,yv,nv] (oent 100 6 om (l.flatMap YE) L) h K :=
 Zb.lend_o ho (Z1 Z9 l) (by omega) fun sl=>Zob _ yv nv (Zj.pub Z9 sl) hn hm (hy.up (Wa ha _)) (hno.up (Wa ha _)) hA fun h' le=>hk _ (Zhb ha le)
theorem Zb.entr {P:Program}{f:FuncId}{args:List Value}{L:Own}{h:PH}{K:PK}(hs:Ap L h→Nd L→Zb P f args L h K):Zb P f args L h K :=
 ⟨trivial,fun W hg=>(hs (Ap.of hg.apart) (Nd.of hg.nodup)).2 W hg⟩
theorem Zwr {e sz:Nat}{o:Option (Nat×Nat)}{xs:List Value}{x:Zl}{L:Own}(nd:Nd (oent e sz o xs (x::L))):apB o x.b∧Nd (oent e sz o xs L):=by
 cases o with
 | none=>exact⟨trivial,nd.2⟩
 | some p=>exact⟨Ne.symm nd.1.1,nd.1.2,nd.2.2⟩
theorem Yo {e sz e2 sz2:Nat}(o o2:Option (Nat×Nat))(xs ys:List Value)(L:Own):(oent e sz o xs (oent e2 sz2 o2 ys L)).Perm (oent e2 sz2 o2 ys (oent e sz o xs L)):=by
 cases o with
 | none=>exact List.Perm.refl _
 | some p=>cases o2 with
  | none=>exact List.Perm.refl _
  | some p2=>exact List.Perm.swap _ _ _
theorem YD {e sz:Nat}{o:Option (Nat×Nat)}{xs:List Value}{L:Own}{h:PH}(ap:Ap (oent e sz o xs L) h):apO o [] h:=by
 cases o with
 | none=>trivial
 | some p=>exact⟨trivial,ap.1⟩
theorem Yj {e sz b:Nat}{o:Option (Nat×Nat)}{xs:List Value}{L:Own}(ha:ZU b (oent e sz o xs L)):apB o b:=by
 cases o with
 | none=>trivial
 | some p=>exact ha.1
theorem Yig {v:SV}{s:Zf}(hs:Zp h v s)(hf:Wi s=true):ZE s.members s.purses∧Yb s.par=true∧(0≤s.ep∧s.ep≤1073741824)∧(s.purses.length≤64∧s.members.length≤128)∧tot s.purses+tot (s.members.map Zc.bal)+tot (s.dues.map Zg.amt)≤4611686018427387904:=by
 simp only[Wi,Bool.and_eq_true]at hf;obtain⟨⟨⟨⟨⟨⟨⟨⟨f1,f2⟩,f3⟩,f4⟩,f5⟩,f6⟩,f7⟩,f8⟩,f9⟩:=hf;simp only[WK,Bool.and_eq_true,decide_eq_true_eq,List.all_eq_true]at f5;simp only[Uq,Bool.and_eq_true,decide_eq_true_eq,List.all_eq_true]at f4;simp only[WR,Bool.and_eq_true,decide_eq_true_eq]at f9;rw[wi_iff]at f2;have f41:=wi_iff.1 f4.1;have p0:=hs.parts;have u1:=hs.ok.u s.burn (by simp);have u2:=hs.ok.u s.treas (by simp);have ht:tot s.purses+tot (s.members.map Zc.bal)+tot (s.dues.map Zg.amt)≤4611686018427387904:=by
  have e:=f9.2;simp only[Zql,Ztu,Zqr,GU,Zvu]at e p0;omega
 have p4:0≤tot (s.dues.map Zg.amt):=p0.2.2.2;refine⟨⟨hs.mo,fun x hx=>?_,fun i=>(hs.p.word i).1,by omega⟩,f1,f2,⟨by omega,f5.1.1.1⟩,ht⟩;have:=(f5.1.1.2 x hx).2;rw[VI,wi_iff]at this;omega
end Go.X
