/- Lemmas and contracts. Conditions: as each says. -/
import Derived.Test.YtllhopbilpdpkaaGreatQ28
set_option linter.unusedVariables false
set_option linter.unusedSimpArgs false
set_option maxHeartbeats 12800000
set_option maxRecDepth 20000
namespace Go.X
open Go.RowKit Go.Proofs Go.Bl Go.Proofs.Tryz
variable {L:Own} {h:PH} {K:PK}
def Zbw (m:Zl)(now:Int)(qu:Bool):Bool:=decide (m.state=2)&&(decide (m.due≤now)&&(qu||(decide (m.what=3)||decide (m.what=4))))
def Vd (ms:List Zl)(now:Int)(qu:Bool)(k:Nat):List Int:=((List.range k).filter fun i=>Zbw (gr Z5 ms i) now qu).map fun i:Nat=>(i:Int)
theorem Zke (ms:List Zl)(now:Int)(qu:Bool)(k:Nat):(Vd ms now qu k).length≤k:=by
 unfold Vd;rw[List.length_map];exact Nat.le_trans (List.length_filter_le _ _) (by rw[List.length_range];omega)
theorem Zsr (ms:List Zl)(now:Int)(qu:Bool)(k:Nat):Vd ms now qu (k+1)=Vd ms now qu k++(if Zbw (gr Z5 ms k) now qu then [(k:Int)] else []):=by
 unfold Vd;rw[List.range_succ,List.filter_append,List.map_append]
 congr 1
 simp only[List.filter]
 cases Zbw (gr Z5 ms k) now qu<;>rfl
theorem Zjm {ms:List Zl}{now:Int}{qu:Bool}{k:Nat}{z:Int}(hz:z∈Vd ms now qu k):0≤z∧z<k:=by
 obtain⟨i,hi,rfl⟩:=List.mem_map.1 hz;have:=List.mem_range.1 (List.mem_filter.1 hi).1;omega
theorem Zve {ql:List QM}{ms:List Zl}(v:Value)(hv:Zh Wk 33 h v ql)(hq:ql.map (fun x=>x.2.2)=ms)(hm:WI h ql)(hl:ql.length≤1000)(now:Int)(qu:Bool)
  (hk:∀h' r,PH.le h h'→Ints h' .i64 r (Vd ms now qu ms.length)→K r L h'):Zb prog 220 [v,.int .i64 now,.bool qu] L h K:=by
 have hql:ql.length=ms.length:=by rw[← hq,List.length_map]
 obtain⟨va,vc,rfl,_,_,_,hd⟩:=hv.open;rw[hql]at hd;refine ZS func220 rfl (rs:=[_]) rfl rfl ZX (by kernel_rfl) rfl rfl ?_;refine xx ?_;rw[hql];refine Yu (γ:=Nat×Option (Nat×Nat)) (0,none) (fun q=>q.1≤ms.length∧okO q.2 (Vd ms now qu q.1).length∧apO q.2 L h) (fun q=>[(12,.int .i64 q.1),(11,.int .i64 ms.length),(10,.slice va ms.length vc),(7,ovs q.2 (Vd ms now qu q.1).length),(1,.int .i64 now),(2,.bool qu)]) (fun q=>oent 3 1 q.2 ((Vd ms now qu q.1).map (.int .i64)) L) (fun _=>h) (fun q=>ms.length-q.1) ?_ ?_ ?_ ?_
 ·exact⟨Nat.zero_le _,rfl,trivial⟩
 ·simp [Ent,List.lookup,Y3,ovs,Vd]
 ·exact Za.refl _ _
 rintro⟨j,o⟩ ⟨j1,j2,j3⟩;simp only at j1 j2 j3 ⊢;have hrl:=Zke ms now qu j;by_cases c1:j<ms.length
 ·have hs:=Zsr ms now qu j;obtain⟨qk,hqk⟩:∃qk,qk=gr Z2 ql j:=⟨_,rfl⟩
  have hmem:qk∈ql:=by rw[hqk,Z9 (by omega)];exact List.getElem_mem _
  have hmk:Zs h qk:=hm qk hmem;have hgm:gr Z5 ms j=qk.2.2:=by
   have e:ms[j]?=some qk.2.2:=by
    rw[← hq,List.getElem?_map,List.getElem?_eq_getElem (by omega),← Z9 (z:=Z2) (by omega),← hqk]
    rfl
   rw[List.getElem?_eq_getElem c1]at e;rw[Z9 c1];exact Option.some.inj e
  rw[hgm]at hs;have hy:=hmk.y;have hn:=hmk.n;obtain⟨vy,vn,md⟩:=qk;simp only at hy hn hs;obtain⟨ya,yc,rfl,_⟩:=hy.open;obtain⟨na,nc,rfl,_⟩:=hn.open;have hqs:=hqk.symm;simp -dsimp -implicitDefEqProofs (disch:=first|with_reducible assumption|omega) [go_sem,↓WQ Z2 (by decide) hd,hqs,Wk,GL,List.cons_append,List.nil_append];refine Z0 fun b9 nb9 zb9=>?_;(try simp only[ZT]at nb9);have n9:=Yr nb9;simp -dsimp -implicitDefEqProofs (disch:=first|with_reducible assumption|omega) [go_sem,hqs,Wk,GL,List.cons_append,List.nil_append];by_cases c2:md.state=2
  ·by_cases c3:md.due≤now
   ·cases qu with
    | true =>
     rw[if_pos (by simp [Zbw,c2,c3])]at hs;refine xx ?_;refine Z0 fun b10 nb10 zb10=>?_;(try simp only[ZT]at nb10);refine xx ?_;refine Z3 (t:=27) (e:=3) (sz:=1) (bytes:=8) (by kernel_rfl) GE rfl rfl rfl rfl (by decide) [_,_] L o (Vd ms now true j).length _ j2 (by simp) (Src.own List.mem_cons_self) (m:=1) (news:=[.int .i64 j]) rfl (fun u hu=>by simp at hu;subst hu;rfl) (by simp [maxLen];omega) (by omega) ?_;intro o' i1 i2 i3;refine xx ?_;have hsl:(Vd ms now true (j+1)).length=(Vd ms now true j).length+1:=by rw[hs,List.length_append];rfl
     refine⟨j+1,o',⟨by omega,by rw[hsl];exact i1,ZZ (ZZ i2)⟩,by omega,by simp [Ent,List.lookup,hsl],?_⟩;simp only[hs,List.map_append,List.map_cons,List.map_nil];exact(Za.tail _ _ _).trans (Za.tail _ _ _)
    | false =>
     by_cases c5:md.what=3
     ·rw[if_pos (by simp [Zbw,c2,c3,c5])]at hs;refine xx ?_;refine Z0 fun b10 nb10 zb10=>?_;(try simp only[ZT]at nb10);refine xx ?_;refine Z3 (t:=27) (e:=3) (sz:=1) (bytes:=8) (by kernel_rfl) GE rfl rfl rfl rfl (by decide) [_,_] L o (Vd ms now false j).length _ j2 (by simp) (Src.own List.mem_cons_self) (m:=1) (news:=[.int .i64 j]) rfl (fun u hu=>by simp at hu;subst hu;rfl) (by simp [maxLen];omega) (by omega) ?_;intro o' i1 i2 i3;refine xx ?_;have hsl:(Vd ms now false (j+1)).length=(Vd ms now false j).length+1:=by rw[hs,List.length_append];rfl
      refine⟨j+1,o',⟨by omega,by rw[hsl];exact i1,ZZ (ZZ i2)⟩,by omega,by simp [Ent,List.lookup,hsl],?_⟩;simp only[hs,List.map_append,List.map_cons,List.map_nil];exact(Za.tail _ _ _).trans (Za.tail _ _ _)
     ·by_cases c6:md.what=4
      ·rw[if_pos (by simp [Zbw,c2,c3,c5,c6])]at hs;refine xx ?_;refine Z0 fun b10 nb10 zb10=>?_;(try simp only[ZT]at nb10);refine xx ?_;refine Z3 (t:=27) (e:=3) (sz:=1) (bytes:=8) (by kernel_rfl) GE rfl rfl rfl rfl (by decide) [_,_] L o (Vd ms now false j).length _ j2 (by simp) (Src.own List.mem_cons_self) (m:=1) (news:=[.int .i64 j]) rfl (fun u hu=>by simp at hu;subst hu;rfl) (by simp [maxLen];omega) (by omega) ?_;intro o' i1 i2 i3;refine xx ?_;have hsl:(Vd ms now false (j+1)).length=(Vd ms now false j).length+1:=by rw[hs,List.length_append];rfl
       refine⟨j+1,o',⟨by omega,by rw[hsl];exact i1,ZZ (ZZ i2)⟩,by omega,by simp [Ent,List.lookup,hsl],?_⟩;simp only[hs,List.map_append,List.map_cons,List.map_nil];exact(Za.tail _ _ _).trans (Za.tail _ _ _)
      ·rw[if_neg (by simp [Zbw,c2,c3,c5,c6]),List.append_nil]at hs;refine xx ?_;exact⟨j+1,o,⟨by omega,by rw[hs];exact j2,j3⟩,by omega,by simp [Ent,List.lookup,hs],by simp only[hs];exact Za.tail _ _ _⟩
   ·rw[if_neg (by simp [Zbw,c2,c3]),List.append_nil]at hs;refine xx ?_;exact⟨j+1,o,⟨by omega,by rw[hs];exact j2,j3⟩,by omega,by simp [Ent,List.lookup,hs],by simp only[hs];exact Za.tail _ _ _⟩
  ·rw[if_neg (by simp [Zbw,c2]),List.append_nil]at hs;refine xx ?_;exact⟨j+1,o,⟨by omega,by rw[hs];exact j2,j3⟩,by omega,by simp [Ent,List.lookup,hs],by simp only[hs];exact Za.tail _ _ _⟩
 ·obtain rfl:j=ms.length:=by omega
  refine xx ?_;refine YR (n:=(Vd ms now qu ms.length).length) j2 (by simp) (by omega) j3 fun h3 le3 sl=>ZP (hk h3 _ le3 ⟨sl,fun z hz=>?_⟩);have:=Zjm hz;rw[show IntKind.i64.min = -9223372036854775808 by decide,show IntKind.i64.max=9223372036854775807 by decide];omega
def Yeh (q y n a:Int):Bool:=decide (y+n≤18446744073709551615)&&(decide (a≠0)&&(decide (n<y)&&(decide (0≤q) && !decide ((y+n)*10000<q*a))))
theorem Zuo (p:Zd)(ok:Zj p)(y n a:Int)(hy:0≤y∧y≤18446744073709551615)(hn:0≤n∧n≤18446744073709551615)(ha:0≤a∧a≤18446744073709551615)
  (hk:K (.bool (Yeh p.quorum y n a)) L h):Zb prog 318 [WR p,.agg #[.int .u64 y,.int .u64 n,.int .u64 a]] L h K:=by
 have hq : -9223372036854775808≤p.quorum∧p.quorum≤9223372036854775807:=ok.n _ (by simp [Yo]);unfold Yeh at hk;refine ZS func318 rfl (rs:=[_]) rfl rfl ZX (by kernel_rfl) rfl rfl ?_;refine xx ?_;refine Z0 fun b2 nb2 zb2=>?_;(try simp only[ZT]at nb2);refine xx ?_;refine Z0 fun b3 nb3 zb3=>?_;(try simp only[ZT]at nb3);refine xx ?_;refine WA _ _ hy hn ?_;by_cases c1:y+n≤18446744073709551615
 ·rw[YF c1];rw[decide_eq_true c1]at hk;refine xx ?_;by_cases c2:a=0
  ·rw[decide_eq_false (fun e=>e c2)]at hk;refine xx ?_;exact ZO (ZO (ZP hk))
  ·rw[decide_eq_true c2]at hk;refine xx ?_;by_cases c3:y≤n
   ·rw[decide_eq_false (by omega)]at hk;refine xx ?_;exact ZO (ZO (ZP hk))
   ·rw[decide_eq_true (show n<y by omega)]at hk;refine xx ?_;by_cases c4:p.quorum<0
    ·rw[decide_eq_false (show ¬ 0≤p.quorum by omega)]at hk;refine xx ?_;exact ZO (ZO (ZP hk))
    ·rw[decide_eq_true (show 0≤p.quorum by omega)]at hk;refine xx ?_;refine Zbl (y+n) 10000 p.quorum a (by omega) (by decide) (by omega) ha ?_;obtain⟨b,hb⟩:∃b,b=decide ((y+n)*10000<p.quorum*a):=⟨_,rfl⟩
     rw[← hb]at hk ⊢;refine xx ?_;simp only[Bool.true_and]at hk;exact ZO (ZO (ZP hk))
 ·rw[Wh c1];rw[decide_eq_false c1]at hk;refine xx ?_;exact ZO (ZO (ZP hk))
theorem Yjp (i:Int)(hk:K (.bool true) L h):Zb prog 366 [.int .i64 i] L h K:=by
 refine ZS func366 rfl (rs:=[_]) rfl rfl ZX (by kernel_rfl) rfl rfl ?_;refine xx ?_;exact ZP hk
theorem Ykx {ks:List Int}(kv:Value)(hkv:Ints h .u8 kv ks)(i:Nat)(hi:i≤1000)(b:Nat)(hb:(⟨b,31,[kv],1⟩:Zp)∈L)(hk:K (.bool (WH ks i)) L h):Zb prog 379 [.int .i64 i,.pointer (some ⟨b,0,none⟩)] L h K:=by
 have hkv0:=hkv;obtain⟨ka,kc,rfl,_⟩:=hkv.open;refine Zb.frame1 hb ?_ hk;refine Ya func379 rfl (rs:=[_]) rfl rfl ZX (by kernel_rfl) rfl rfl fun ap nd=>?_;have hn:h b=noC:=ap.1;clear ap nd;refine xx ?_;refine Gv (bs:=ks) _ i hkv0 (by omega) ?_;refine xx ?_;exact ZP ⟨rfl,rfl,rfl⟩
theorem Zzz {l:List Zc}(v:Value)(hd0:Zh Ym 6 h v l)(hn:l.length≤1000)(hm:∀x∈l,Zg x)
  (hk:∀h' r,PH.le h h'→Ints h' .u64 r ((cP l l.length).map (Zlu l))→K r L h'):Zb prog 365 [v,.func (.func 366) #[] #[]] L h K:=by
 obtain⟨a,c,rfl,hc,hl,_,hd⟩:=hd0.open;refine ZS func365 rfl (rs:=[_]) rfl rfl ZX (by kernel_rfl) rfl rfl ?_;refine xx ?_;refine Yu (γ:=Nat×Option (Nat×Nat)) (0,none) (fun s=>s.1≤l.length∧okO s.2 (cP l s.1).length∧apO s.2 L h)
  (fun s=>[(10,.int .i64 s.1),(9,.int .i64 l.length),(8,.slice a l.length c),(5,ovs s.2 (cP l s.1).length),(1,.func (.func 366) #[] #[])])
  (fun s=>oent 22 1 s.2 (efC l (cP l s.1)) L) (fun _=>h) (fun s=>l.length-s.1) ?_ ?_ ?_ ?_
 ·exact⟨Nat.zero_le _,rfl,trivial⟩
 ·simp [Ent,List.lookup,Y3,ovs,cP]
 ·exact Za.refl _ _
 rintro⟨k,o1⟩ ⟨i1,i2,i4⟩;simp only at i1 i2 i4 ⊢;by_cases c1:k<l.length
 ·have hcn:(cP l k).length≤k:=Zey l k;have hs1:=Zky l k;simp -dsimp -implicitDefEqProofs (disch:=first|with_reducible assumption|omega) [go_sem,↓WQ ZQ (by decide) hd,Ym];refine Z0 fun b7 nb7 zb7=>?_;(try simp only[ZT]at nb7);have n7:=Yr nb7;simp -dsimp -implicitDefEqProofs (disch:=first|with_reducible assumption|omega) [go_sem,Ym];refine VD (gr ZQ l k) ?_;by_cases c2:G3 (gr ZQ l k)=true
  ·have c2':(gr ZQ l k).status=2∨(gr ZQ l k).status=3:=by simpa [G3] using c2
   rw[decide_eq_true c2'];rw[if_pos c2]at hs1;simp -dsimp -implicitDefEqProofs (disch:=first|with_reducible assumption|omega) [go_sem,Ym];refine Yjp (k:Int) ?_;simp -dsimp -implicitDefEqProofs (disch:=first|with_reducible assumption|omega) [go_sem,Ym];refine Z0 fun b8 nb8 zb8=>?_;(try simp only[ZT]at nb8);refine xx ?_;refine Z3 (t:=25) (e:=22) (sz:=1) (bytes:=8) (by kernel_rfl) Ug rfl rfl rfl rfl (by decide) [_,_] _ o1 (cP l k).length (efC l (cP l k)) i2 (Jb _ _) (Src.own List.mem_cons_self) (m:=1) (news:=[.int .u64 (gr ZQ l k).eff]) rfl (by intro u hu;simp only[List.mem_singleton]at hu;subst hu;rfl) (by simp [maxLen];omega) (by omega) ?_;intro o1' j1 j2 j3;have j4:=ZZ (ZZ j2);have e1:efC l (cP l k)++[.int .u64 (gr ZQ l k).eff]=efC l (cP l (k+1)):=by rw[hs1,Zao];rfl
   have e2:(cP l k).length+1=(cP l (k+1)).length:=by rw[hs1];simp
   rw[e2]at j1 ⊢;rw[e1];refine xx ?_;exact⟨k+1,o1',⟨by omega,j1,j4⟩,by omega,by simp [Ent,List.lookup],(Za.tail _ _ _).trans (Za.tail _ _ _)⟩
  ·have c2':¬((gr ZQ l k).status=2∨(gr ZQ l k).status=3):=by simpa [G3] using c2
   rw[decide_eq_false c2'];rw[if_neg c2]at hs1;refine xx ?_;exact⟨k+1,o1,⟨by omega,by rw[hs1];exact i2,i4⟩,by omega,by simp [Ent,List.lookup,hs1],by rw[hs1];exact Za.tail _ _ _⟩
 ·obtain rfl:k=l.length:=by omega
  have hcn:(cP l l.length).length≤l.length:=Zey l l.length;refine xx ?_;refine YR (n:=(cP l l.length).length) i2 (Jb _ _) (by omega) i4 fun h1 le1 sl=>ZP (hk h1 _ le1 (Zhg hm sl))
theorem Zwp {l:List Zc}{ks:List Int}(v kv:Value)(hd0:Zh Ym 6 h v l)(hn:l.length≤1000)(hm:∀x∈l,Zg x)(hkv:Ints h .u8 kv ks)(b:Nat)(hb:(⟨b,31,[kv],1⟩:Zp)∈L)
  (hk:∀h' r,PH.le h h'→Ints h' .u64 r ((thI l ks l.length).map (Zlu l))→K r L h'):Zb prog 365 [v,.func (.func 379) #[] #[.pointer (some ⟨b,0,none⟩)]] L h K:=by
 obtain⟨a,c,rfl,hc,hl,_,hd⟩:=hd0.open;refine ZS func365 rfl (rs:=[_]) rfl rfl ZX (by kernel_rfl) rfl rfl ?_;refine xx ?_;refine Yu (γ:=Nat×Option (Nat×Nat)) (0,none) (fun s=>s.1≤l.length∧okO s.2 (thI l ks s.1).length∧apO s.2 L h)
  (fun s=>[(10,.int .i64 s.1),(9,.int .i64 l.length),(8,.slice a l.length c),(5,ovs s.2 (thI l ks s.1).length),(1,.func (.func 379) #[] #[.pointer (some ⟨b,0,none⟩)])])
  (fun s=>oent 22 1 s.2 (efC l (thI l ks s.1)) L) (fun _=>h) (fun s=>l.length-s.1) ?_ ?_ ?_ ?_
 ·exact⟨Nat.zero_le _,rfl,trivial⟩
 ·simp [Ent,List.lookup,Y3,ovs,cP,thI]
 ·exact Za.refl _ _
 rintro⟨k,o1⟩ ⟨i1,i2,i4⟩;simp only at i1 i2 i4 ⊢;have hbo:∀(x y:List Zp),(⟨b,31,[kv],1⟩:Zp)∈x++oent 22 1 o1 (efC l (thI l ks k)) L:=fun x y=>by
  refine List.mem_append_right _ ?_
  cases o1 with
  | none=>exact hb
  | some p=>exact List.mem_cons_of_mem _ hb
 by_cases c1:k<l.length
 ·have hcn:(thI l ks k).length≤k:=Zaz l ks k;have hs1:=Zah l ks k;simp -dsimp -implicitDefEqProofs (disch:=first|with_reducible assumption|omega) [go_sem,↓WQ ZQ (by decide) hd,Ym];refine Z0 fun b7 nb7 zb7=>?_;(try simp only[ZT]at nb7);have n7:=Yr nb7;simp -dsimp -implicitDefEqProofs (disch:=first|with_reducible assumption|omega) [go_sem,Ym];refine VD (gr ZQ l k) ?_;by_cases c2:G3 (gr ZQ l k)=true
  ·have c2':(gr ZQ l k).status=2∨(gr ZQ l k).status=3:=by simpa [G3] using c2
   rw[decide_eq_true c2'];rw[c2,Bool.true_and]at hs1;simp -dsimp -implicitDefEqProofs (disch:=first|with_reducible assumption|omega) [go_sem,Ym];refine Ykx kv hkv k (by omega) b (hbo [_] []) ?_;by_cases c3:WH ks k=true
   ·rw[if_pos c3]at hs1;rw[Waa c3];simp -dsimp -implicitDefEqProofs (disch:=first|with_reducible assumption|omega) [go_sem,Ym];refine Z0 fun b8 nb8 zb8=>?_;(try simp only[ZT]at nb8);refine xx ?_;refine Z3 (t:=25) (e:=22) (sz:=1) (bytes:=8) (by kernel_rfl) Ug rfl rfl rfl rfl (by decide) [_,_] _ o1 (thI l ks k).length (efC l (thI l ks k)) i2 (Jb _ _) (Src.own List.mem_cons_self) (m:=1) (news:=[.int .u64 (gr ZQ l k).eff]) rfl (by intro u hu;simp only[List.mem_singleton]at hu;subst hu;rfl) (by simp [maxLen];omega) (by omega) ?_;intro o1' j1 j2 j3;have j4:=ZZ (ZZ j2);have e1:efC l (thI l ks k)++[.int .u64 (gr ZQ l k).eff]=efC l (thI l ks (k+1)):=by rw[hs1,Zao];rfl
    have e2:(thI l ks k).length+1=(thI l ks (k+1)).length:=by rw[hs1];simp
    rw[e2]at j1 ⊢;rw[e1];refine xx ?_;exact⟨k+1,o1',⟨by omega,j1,j4⟩,by omega,by simp [Ent,List.lookup],(Za.tail _ _ _).trans (Za.tail _ _ _)⟩
   ·have c3':WH ks k=false:=by simpa using c3
    rw[if_neg c3]at hs1;rw[Waa c3'];refine xx ?_;exact⟨k+1,o1,⟨by omega,by rw[hs1];exact i2,i4⟩,by omega,by simp [Ent,List.lookup,hs1],by rw[hs1];exact Za.tail _ _ _⟩
  ·have c2':¬((gr ZQ l k).status=2∨(gr ZQ l k).status=3):=by simpa [G3] using c2
   rw[decide_eq_false c2'];rw[show G3 (gr ZQ l k)=false by simpa using c2,Bool.false_and]at hs1;simp only[Bool.false_eq_true,if_false]at hs1;refine xx ?_;exact⟨k+1,o1,⟨by omega,by rw[hs1];exact i2,i4⟩,by omega,by simp [Ent,List.lookup,hs1],by rw[hs1];exact Za.tail _ _ _⟩
 ·obtain rfl:k=l.length:=by omega
  have hcn:(thI l ks l.length).length≤l.length:=Zaz l ks l.length;refine xx ?_;refine YR (n:=(thI l ks l.length).length) i2 (Jb _ _) (by omega) i4 fun h1 le1 sl=>ZP (hk h1 _ le1 (Zhg hm sl))
theorem Zet {l:List Zc}{ks:List Int}(v kv:Value)(hd0:Zh Ym 6 h v l)(hn:l.length≤1000)(hm:∀x∈l,Zg x)(hkv:Ints h .u8 kv ks)
  (hk:∀h',PH.le h h'→K (Ztm (UR l ks)) L h'):Zb prog 367 [v,kv] L h K:=by
 have hkv0:=hkv;obtain⟨ka,kc,rfl,_⟩:=hkv.open;refine ZS func367 rfl (rs:=[_,_]) rfl rfl ZX (by kernel_rfl) rfl rfl ?_;refine xx ?_;refine Z0 fun b3 nb3 zb3=>?_;(try simp only[ZT]at nb3);refine xx ?_;refine Zwp v _ hd0 hn hm hkv0 b3 List.mem_cons_self fun h1 r le1 it=>?_;obtain⟨ra,rc,rfl,_⟩:=it.open;rw[List.length_map]at it;simp only[List.length_map];refine xx ?_;refine Wq _ it ?_;have hk:=hk h1 le1;rw[show tot ((thI l ks l.length).map (Zlu l))=UR l ks from rfl];by_cases c:UR l ks≤18446744073709551615
 ·rw[YF c]at hk ⊢;refine xx ?_;exact ZO (ZP hk)
 ·rw[Wh c]at hk ⊢;refine xx ?_;exact ZO (ZP hk)
theorem Zrl {l:List Zc}{ys ns:List Int}(v yv nv:Value)(hd0:Zh Ym 6 h v l)(hn:l.length≤1000)(hm:∀x∈l,Zg x)(hy:Ints h .u8 yv ys)(hno:Ints h .u8 nv ns)(hA:VA l≤18446744073709551615)
  (hk:∀h',PH.le h h'→K (.tuple #[.agg #[.int .u64 (UR l ys),.int .u64 (UR l ns),.int .u64 (VA l)],.int .i64 0]) L h'):Zb prog 317 [v,yv,nv] L h K:=by
 have p1:=VX (ks:=ys) hm;have p2:=VX (ks:=ns) hm;refine ZS func317 rfl (rs:=[_,_]) rfl rfl ZX (by kernel_rfl) rfl rfl ?_;refine xx ?_;refine Z0 fun b6 nb6 zb6=>?_;(try simp only[ZT]at nb6);refine xx ?_;refine Zb.ap (Zzz v hd0 hn hm fun h1 r le1 it ap=>?_);simp only[Ap]at ap;obtain⟨a1,_⟩:=ap;obtain⟨ra,rc,rfl,_⟩:=it.open;rw[List.length_map]at it;simp only[List.length_map];refine xx ?_;refine Wq _ it ?_;rw[show tot ((cP l l.length).map (Zlu l))=VA l from rfl,YF hA];refine xx ?_;refine Zb.ap (Zet v yv (hd0.up le1) hn hm (hy.up le1) fun h2 le2 ap=>?_);simp only[Ap]at ap;obtain⟨a2,_⟩:=ap;rw[YF (show UR l ys≤18446744073709551615 by omega)];have le12:=le1.trans le2;refine xx ?_;refine Zb.ap (Zet v nv (hd0.up le12) hn hm (hno.up le12) fun h3 le3 ap=>?_);simp only[Ap]at ap;obtain⟨a3,_⟩:=ap;rw[YF (show UR l ns≤18446744073709551615 by omega)];refine xx ?_;exact ZO (ZP (hk h3 (le12.trans le3)))
open Go.RowKit
section
variable {P:Program}
def Zgc (h:PH)(b:Nat):PH:=fun b' o=>if b'=b then none else h b' o
theorem Ybx {h h2:PH}{b:Nat}(hb:h b=noC)(le:PH.le h h2):PH.le h (Zgc h2 b):=by
 intro b' o v hv;simp only[Zgc];split
 ·rename_i e;rw[e,hb]at hv;cases hv
 ·exact le b' o v hv
theorem Zug (h:PH)(b:Nat):Zgc h b b=noC:=by
 funext o
 simp [Zgc,noC]
theorem Yfi {h:PH}{b c:Nat}(hc:h c=noC):Zgc h b c=noC:=by
 funext o
 simp only[Zgc];split
 ·rfl
 ·exact congrFun hc o
theorem Zb.lend {f:FuncId}{args:List Value}{L:Own}{h:PH}{K:PK}{b t cap:Nat}{cs:List Value}(heT:t≠4294967295)
  (hs:Zb P f args L (pub h b cs) fun v L' h'=>K v (⟨b,t,cs,cap⟩::L') (Zgc h' b)):Zb P f args (⟨b,t,cs,cap⟩::L) h K:=by
 refine⟨trivial,fun W hg=>?_⟩;obtain⟨g1,_⟩:=Zgi b t cap cs L h heT W hg;have hnd:=hg.nodup;simp only[List.map_cons,List.nodup_cons]at hnd;have hbW:b<W.heap.size:=GT hg (e:=⟨b,t,cs,cap⟩) List.mem_cons_self;refine(hs.2 W g1).mono fun e W' hh=>?_;obtain⟨v,L2,h2,e1,hk,g2,kp,hfr⟩:=hh;have hb2:∀e∈L2,e.b≠b:=fun e he hb=>by
  rcases hfr e he with hm|hm
  ·exact hnd.1 (by rw[← hb];exact hm)
  ·omega
 refine⟨v,_,_,e1,hk,⟨fun b' o v hv=>?_,fun e he=>?_,?_,fun e he=>?_⟩,⟨kp.os,kp.tape,kp.output,kp.size,fun k hk' hM=>kp.block k hk' fun hm=>hM ?_⟩,fun e he=>?_⟩
 ·simp only[Zgc]at hv;split at hv
  ·cases hv
  ·exact g2.sub _ _ _ hv
 ·rcases List.mem_cons.1 he with rfl|he
  ·show BlkIs _ W'.heap[b]?;rw[kp.block b hbW hnd.1];exact hg.own _ List.mem_cons_self
  ·exact g2.own e he
 ·simp only[List.map_cons,List.nodup_cons];refine⟨fun hm=>?_,g2.nodup⟩;obtain⟨e,he,hb⟩:=List.mem_map.1 hm;exact hb2 e he hb
 ·rcases List.mem_cons.1 he with rfl|he
  ·exact Zug h2 b
  ·exact Yfi (g2.apart e he)
 ·simp only[List.map_cons];exact List.mem_cons_of_mem _ hm
 ·rcases List.mem_cons.1 he with rfl|he
  ·exact Or.inl (by simp)
  ·rcases hfr e he with hm|hm
   ·exact Or.inl (by simp only[List.map_cons];exact List.mem_cons_of_mem _ hm)
   ·exact Or.inr hm
def Yig (h:PH):Option (Nat×Nat)→PH
 | none=>h
 | some p=>Zgc h p.1
theorem Zb.lend_o {f:FuncId}{args:List Value}{L:Own}{h:PH}{K:PK}{e sz n:Nat}{o:Option (Nat×Nat)}{cs:List Value}(ho:okO o n)(hl:cs.length=n*sz)(hn:n≤9223372036854775807)
  (hs:Sl (JV h o cs) (ovs o n) n sz cs→Zb P f args L (JV h o cs) fun v L' h'=>K v (oent e sz o cs L') (Yig h' o)) (heT:e≠4294967295:=by first|decide|omega):Zb P f args (oent e sz o cs L) h K:=by
 have hs:=hs (Vv ho hl hn)
 cases o with
 | none=>exact hs
 | some p=>exact Zb.lend heT hs
end
open Go.RowKit Go.Proofs Go.Bl Go.Proofs.Tryz
variable {L:Own} {h:PH} {K:PK}
theorem Zhz {o:Option (Nat×Nat)}{h h2:PH}{cs:List Value}(ha:apO o L h)(le:PH.le (JV h o cs) h2):PH.le h (Yig h2 o):=by
 have le2:=(Y9 ha cs).trans le
 cases o with
 | none=>exact le2
 | some p=>exact Ybx ha.2 le2
theorem Zij {l:List Zc}{ks:List Int}(om:Option (Nat×Nat))(ho:okO om l.length)(ha:apO om L h)(kv:Value)(hm:∀x∈l,Zg x)(hkv:Ints h .u8 kv ks)(hn:l.length≤1000)(hA:VA l≤18446744073709551615)
  (hk:∀h',PH.le h h'→K (.tuple #[.int .u64 (UR l ks),.int .u64 (VA l),.int .i64 0]) (oent 74 6 om (l.flatMap Ym) L) h') :
  Zb prog 137 [ovs om l.length,kv] (oent 74 6 om (l.flatMap Ym) L) h K :=
 Zb.lend_o ho (Z1 Yf l) (by omega) fun sl=>Zbc _ kv (Zh.pub Yf sl) hm (hkv.up (Y9 ha _)) hn hA fun h' le=>hk _ (Zhz ha le)
theorem Zcm {l:List Zc}{ys ns:List Int}(om:Option (Nat×Nat))(ho:okO om l.length)(ha:apO om L h)(yv nv:Value)(hn:l.length≤1000)(hm:∀x∈l,Zg x)(hy:Ints h .u8 yv ys)(hno:Ints h .u8 nv ns)(hA:VA l≤18446744073709551615)
  (hk:∀h',PH.le h h'→K (.tuple #[.agg #[.int .u64 (UR l ys),.int .u64 (UR l ns),.int .u64 (VA l)],.int .i64 0]) (oent 74 6 om (l.flatMap Ym) L) h') :
  Zb prog 317 [ovs om l.length,yv,nv] (oent 74 6 om (l.flatMap Ym) L) h K :=
 Zb.lend_o ho (Z1 Yf l) (by omega) fun sl=>Zrl _ yv nv (Zh.pub Yf sl) hn hm (hy.up (Y9 ha _)) (hno.up (Y9 ha _)) hA fun h' le=>hk _ (Zhz ha le)
theorem Zb.entr {P:Program}{f:FuncId}{args:List Value}{L:Own}{h:PH}{K:PK}(hs:Ap L h→Nd L→Zb P f args L h K):Zb P f args L h K :=
 ⟨trivial,fun W hg=>(hs (Ap.of hg.apart) (Nd.of hg.nodup)).2 W hg⟩
theorem Zvd {e sz:Nat}{o:Option (Nat×Nat)}{xs:List Value}{x:Zp}{L:Own}(nd:Nd (oent e sz o xs (x::L))):apB o x.b∧Nd (oent e sz o xs L):=by
 cases o with
 | none=>exact⟨trivial,nd.2⟩
 | some p=>exact⟨Ne.symm nd.1.1,nd.1.2,nd.2.2⟩
theorem YD {e sz e2 sz2:Nat}(o o2:Option (Nat×Nat))(xs ys:List Value)(L:Own):(oent e sz o xs (oent e2 sz2 o2 ys L)).Perm (oent e2 sz2 o2 ys (oent e sz o xs L)):=by
 cases o with
 | none=>exact List.Perm.refl _
 | some p=>cases o2 with
  | none=>exact List.Perm.refl _
  | some p2=>exact List.Perm.swap _ _ _
theorem YL {e sz:Nat}{o:Option (Nat×Nat)}{xs:List Value}{L:Own}{h:PH}(ap:Ap (oent e sz o xs L) h):apO o [] h:=by
 cases o with
 | none=>trivial
 | some p=>exact⟨trivial,ap.1⟩
theorem Yv {e sz b:Nat}{o:Option (Nat×Nat)}{xs:List Value}{L:Own}(ha:ZT b (oent e sz o xs L)):apB o b:=by
 cases o with
 | none=>trivial
 | some p=>exact ha.1
theorem Yit {v:SV}{s:Ze}(hs:Zo h v s)(hf:Yb s=true):ZF s.members s.purses∧Yd s.par=true∧(0≤s.ep∧s.ep≤1073741824)∧(s.purses.length≤64∧s.members.length≤128)∧tot s.purses+tot (s.members.map Zc.bal)+tot (s.dues.map Zi.amt)≤4611686018427387904:=by
 simp only[Yb,Bool.and_eq_true]at hf;obtain⟨⟨⟨⟨⟨⟨⟨⟨f1,f2⟩,f3⟩,f4⟩,f5⟩,f6⟩,f7⟩,f8⟩,f9⟩:=hf;simp only[We,Bool.and_eq_true,decide_eq_true_eq,List.all_eq_true]at f5;simp only[V2,Bool.and_eq_true,decide_eq_true_eq,List.all_eq_true]at f4;simp only[Wc,Bool.and_eq_true,decide_eq_true_eq]at f9;rw[wi_iff]at f2;have f41:=wi_iff.1 f4.1;have p0:=hs.parts;have u1:=hs.ok.u s.burn (by simp);have u2:=hs.ok.u s.treas (by simp);have ht:tot s.purses+tot (s.members.map Zc.bal)+tot (s.dues.map Zi.amt)≤4611686018427387904:=by
  have e:=f9.2;simp only[Zkr,Zsn,Zta,Gx,Zrn]at e p0;omega
 have p4:0≤tot (s.dues.map Zi.amt):=p0.2.2.2;refine⟨⟨hs.mo,fun x hx=>?_,fun i=>(hs.p.word i).1,by omega⟩,f1,f2,⟨by omega,f5.1.1.1⟩,ht⟩;have:=(f5.1.1.2 x hx).2;rw[Y1,wi_iff]at this;omega
end Go.X
