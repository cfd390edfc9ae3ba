/- Lemmas and contracts. Conditions: as each says. -/
import Derived.Test.YtllhopbilpdpkaaGreatQ28
set_option linter.unusedVariables false
set_option linter.unusedSimpArgs false
set_option maxHeartbeats 12800000
set_option maxRecDepth 20000
namespace Go.X
open Go.RowKit Go.Proofs Go.Bl Go.Proofs.Tryz
variable {L:Own} {h:PH} {K:PK}
def Zap (m:Zl)(now:Int)(qu:Bool):Bool:=decide (m.state=2)&&(decide (m.due<=now)&&(qu||(decide (m.what=3)||decide (m.what=4))))
def Wh (ms:List Zl)(now:Int)(qu:Bool)(k:Nat):List Int:=((List.range k).filter fun i=>Zap (gr Yb ms i) now qu).map fun i:Nat=>(i:Int)
theorem GQ (ms:List Zl)(now:Int)(qu:Bool)(k:Nat):(Wh ms now qu k).length<=k:=by
 unfold Wh;rw[List.length_map];exact Nat.le_trans (List.length_filter_le _ _) (by rw[List.length_range];omega)
theorem Zgh (ms:List Zl)(now:Int)(qu:Bool)(k:Nat):Wh ms now qu (k+1)=Wh ms now qu k++(if Zap (gr Yb ms k) now qu then [(k:Int)] else []):=by
 unfold Wh;rw[List.range_succ,List.filter_append,List.map_append]
 congr 1
 simp only[List.filter]
 cases Zap (gr Yb ms k) now qu<;>rfl
theorem Zdl {ms:List Zl}{now:Int}{qu:Bool}{k:Nat}{z:Int}(hz:z∈Wh ms now qu k):0<=z/\z<k:=by
 obtain⟨i,hi,rfl⟩:=List.mem_map.1 hz;have:=List.mem_range.1 (List.mem_filter.1 hi).1;omega
theorem Zxt {ql:List QM}{ms:List Zl}(v:Value)(hv:Zd YQ 33 h v ql)(hq:ql.map (fun x=>x.2.2)=ms)(hm:YU h ql)(hl:ql.length<=1000)(now:Int)(qu:Bool)
  (hk:∀h' r,PH.le h h'->Ints h' .i64 r (Wh ms now qu ms.length)->K r L h'):Zb prog 220 [v,.int .i64 now,.bool qu] L h K:=by
 have hql:ql.length=ms.length:=qW;obtain⟨va,vc,rfl,_,_,_,hd⟩:=hv.open;rw[hql]at hd;refine ed func220 ?_;refine xx ?_;rw[hql];refine Yi (γ:=Nat×Option (Nat×Nat)) (0,none) (fun q=>q.1<=ms.length/\okO q.2 (Wh ms now qu q.1).length/\apO q.2 L h) (fun q=>[(12,.int .i64 q.1),(11,.int .i64 ms.length),(10,.slice va ms.length vc),(7,ovs q.2 (Wh ms now qu q.1).length),(1,.int .i64 now),(2,.bool qu)]) (fun q=>oent 3 1 q.2 ((Wh ms now qu q.1).map (.int .i64)) L) (fun _=>h) (fun q=>ms.length-q.1) ?_ ?_ ?_ ?_
 ·exact⟨Nat.zero_le _,rfl,trivial⟩
 ·simp [Ent,List.lookup,YT,ovs,Wh]
 ·exact Za.refl _ _
 rintro⟨j,o⟩ ⟨j1,j2,j3⟩;simp only at j1 j2 j3 ⊢;have hrl:=GQ ms now qu j;by_cases c1:j<ms.length
 ·have hs:=Zgh ms now qu j;obtain⟨qk,hqk⟩:∃qk,qk=gr Z0 ql j:=⟨_,rfl⟩
  have hmem:qk∈ql:=by rw[hqk,Ye qf];exact List.getElem_mem _
  have hmk:Zr h qk:=hm qk hmem;have hgm:gr Yb ms j=qk.2.2:=by
   have e:ms[j]?=some qk.2.2:=by
    rw[<- hq,List.getElem?_map,List.getElem?_eq_getElem qf,<- Ye (z:=Z0) qf,<- hqk]
    rfl
   rw[List.getElem?_eq_getElem c1]at e;rw[Ye c1];exact Option.some.inj e
  rw[hgm]at hs;have hy:=hmk.y;have hn:=hmk.n;obtain⟨vy,vn,md⟩:=qk;simp only at hy hn hs;obtain⟨ya,yc,rfl,_⟩:=hy.open;obtain⟨na,nc,rfl,_⟩:=hn.open;have hqs:=hqk.symm;simp -dsimp -implicitDefEqProofs (disch:=first|exact dD|fail) [go_sem,↓Us Z0 qh hd,hqs,YQ,Jj,List.cons_append,List.nil_append];refine ZY fun b9 nb9 zb9=>?_;(try simp only[ZS]at nb9);have n9:=Yx nb9;simp -dsimp -implicitDefEqProofs (disch:=first|exact dD|fail) [go_sem,hqs,YQ,Jj,List.cons_append,List.nil_append];by_cases c2:md.state=2
  ·by_cases c3:md.due<=now
   ·cases qu with
    | true =>
     rw[if_pos (by simp [Zap,c2,c3])]at hs;refine xx ?_;refine ZY fun b10 nb10 zb10=>?_;(try simp only[ZS]at nb10);refine xx ?_;refine ZZ (t:=27) (e:=3) (sz:=1) (bytes:=8) qg V6 rfl rfl rfl rfl qh [_,_] L o (Wh ms now true j).length _ j2 qj (Src.own List.mem_cons_self) (m:=1) (news:=[.int .i64 j]) rfl (fun u hu=>qw) qm qf ?_;intro o' i1 i2 i3;refine xx ?_;have hsl:(Wh ms now true (j+1)).length=(Wh ms now true j).length+1:=by rw[hs,List.length_append];rfl
     refine⟨j+1,o',⟨qf,zG,ZV (ZV i2)⟩,qf,qR,?_⟩;simp only[hs,List.map_append,List.map_cons,List.map_nil];exact(Za.tail _ _ _).trans (Za.tail _ _ _)
    | false =>
     by_cases c5:md.what=3
     ·rw[if_pos (by simp [Zap,c2,c3,c5])]at hs;refine xx ?_;refine ZY fun b10 nb10 zb10=>?_;(try simp only[ZS]at nb10);refine xx ?_;refine ZZ (t:=27) (e:=3) (sz:=1) (bytes:=8) qg V6 rfl rfl rfl rfl qh [_,_] L o (Wh ms now false j).length _ j2 qj (Src.own List.mem_cons_self) (m:=1) (news:=[.int .i64 j]) rfl (fun u hu=>qw) qm qf ?_;intro o' i1 i2 i3;refine xx ?_;have hsl:(Wh ms now false (j+1)).length=(Wh ms now false j).length+1:=by rw[hs,List.length_append];rfl
      refine⟨j+1,o',⟨qf,zG,ZV (ZV i2)⟩,qf,qR,?_⟩;simp only[hs,List.map_append,List.map_cons,List.map_nil];exact(Za.tail _ _ _).trans (Za.tail _ _ _)
     ·by_cases c6:md.what=4
      ·rw[if_pos zZ]at hs;refine xx ?_;refine ZY fun b10 nb10 zb10=>?_;(try simp only[ZS]at nb10);refine xx ?_;refine ZZ (t:=27) (e:=3) (sz:=1) (bytes:=8) qg V6 rfl rfl rfl rfl qh [_,_] L o (Wh ms now false j).length _ j2 qj (Src.own List.mem_cons_self) (m:=1) (news:=[.int .i64 j]) rfl (fun u hu=>qw) qm qf ?_;intro o' i1 i2 i3;refine xx ?_;have hsl:(Wh ms now false (j+1)).length=(Wh ms now false j).length+1:=by rw[hs,List.length_append];rfl
       refine⟨j+1,o',⟨qf,zG,ZV (ZV i2)⟩,qf,qR,?_⟩;simp only[hs,List.map_append,List.map_cons,List.map_nil];exact(Za.tail _ _ _).trans (Za.tail _ _ _)
      ·rw[if_neg zZ,List.append_nil]at hs;refine xx ?_;exact⟨j+1,o,⟨qf,zJ,j3⟩,qf,qK,zT⟩
   ·rw[if_neg (by simp [Zap,c2,c3]),List.append_nil]at hs;refine xx ?_;exact⟨j+1,o,⟨qf,zJ,j3⟩,qf,qK,zT⟩
  ·rw[if_neg (by simp [Zap,c2]),List.append_nil]at hs;refine xx ?_;exact⟨j+1,o,⟨qf,zJ,j3⟩,qf,qK,zT⟩
 ·obtain rfl:j=ms.length:=qf;refine xx ?_;refine Yv (n:=(Wh ms now qu ms.length).length) j2 qj qf j3 fun h3 le3 sl=>ZP (hk h3 _ le3 ⟨sl,fun z hz=>?_⟩);have:=Zdl hz;rw[show IntKind.i64.min = -9223372036854775808 from qh,show IntKind.i64.max=9223372036854775807 from qh];omega
def Znj (q y n a:Int):Bool:=decide (y+n<=18446744073709551615)&&(decide (a≠0)&&(decide (n<y)&&(decide (0<=q) && !decide ((y+n)*10000<q*a))))
theorem Zzn (p:Ze)(ok:Zj p)(y n a:Int)(hy:0<=y/\y<=18446744073709551615)(hn:0<=n/\n<=18446744073709551615)(ha:0<=a/\a<=18446744073709551615)
  (hk:K (.bool (Znj p.aI y n a)) L h):Zb prog 318 [WS p,.agg #[.int .u64 y,.int .u64 n,.int .u64 a]] L h K:=by
 have hq : -9223372036854775808<=p.aI/\p.aI<=9223372036854775807:=ok.n _ (by simp [YA]);unfold Znj at hk;refine ed func318 ?_;refine xx ?_;refine ZY fun b2 nb2 zb2=>?_;(try simp only[ZS]at nb2);refine xx ?_;refine ZY fun b3 nb3 zb3=>?_;(try simp only[ZS]at nb3);refine xx ?_;refine WV _ _ hy hn ?_;by_cases c1:y+n<=18446744073709551615
 ·rw[YR c1];rw[decide_eq_true c1]at hk;refine xx ?_;by_cases c2:a=0
  ·rw[decide_eq_false (fun e=>e c2)]at hk;refine xx ?_;exact ZO (ZO (ZP hk))
  ·rw[decide_eq_true c2]at hk;refine xx ?_;by_cases c3:y<=n
   ·rw[decide_eq_false qf]at hk;refine xx ?_;exact ZO (ZO (ZP hk))
   ·rw[decide_eq_true (show n<y from qf)]at hk;refine xx ?_;by_cases c4:p.aI<0
    ·rw[decide_eq_false (show ¬ 0<=p.aI from qf)]at hk;refine xx ?_;exact ZO (ZO (ZP hk))
    ·rw[decide_eq_true (show 0<=p.aI from qf)]at hk;refine xx ?_;refine Zcg (y+n) 10000 p.aI a qf qh qf ha ?_;obtain⟨b,hb⟩:∃b,b=decide ((y+n)*10000<p.aI*a):=⟨_,rfl⟩
     rw[<- hb]at hk ⊢;refine xx ?_;simp only[Bool.true_and]at hk;exact ZO (ZO (ZP hk))
 ·rw[Wy c1];rw[decide_eq_false c1]at hk;refine xx ?_;exact ZO (ZO (ZP hk))
theorem Ymx (i:Int)(hk:K (.bool true) L h):Zb prog 366 [.int .i64 i] L h K:=by
 refine ed func366 ?_;refine xx ?_;exact ZP hk
theorem Yly {ks:List Int}(kv:Value)(hkv:Ints h .u8 kv ks)(i:Nat)(hi:i<=1000)(b:Nat)(hb:(⟨b,31,[kv],1⟩:Zn)∈L)(hk:K (.bool (Wm ks i)) L h):Zb prog 379 [.int .i64 i,.pointer (some ⟨b,0,none⟩)] L h K:=by
 have hkv0:=hkv;obtain⟨ka,kc,rfl,_⟩:=hkv.open;refine Zb.frame1 hb ?_ hk;refine eH func379 fun ap nd=>?_;have hn:h b=noC:=ap.1;clear ap nd;refine xx ?_;refine Zhg (bs:=ks) _ i hkv0 qf ?_;refine xx ?_;exact ZP ⟨rfl,rfl,rfl⟩
theorem Ybe {l:List Zc}(v:Value)(hd0:Zd YD 6 h v l)(hn:l.length<=1000)(hm:∀x∈l,Zf x)
  (hk:∀h' r,PH.le h h'->Ints h' .u64 r ((cP l l.length).map (Zeg l))->K r L h'):Zb prog 365 [v,.func (.func 366) #[] #[]] L h K:=by
 obtain⟨a,c,rfl,hc,hl,_,hd⟩:=hd0.open;refine ed func365 ?_;refine xx ?_;refine Yi (γ:=Nat×Option (Nat×Nat)) (0,none) (fun s=>s.1<=l.length/\okO s.2 (cP l s.1).length/\apO s.2 L h)
  (fun s=>[(10,.int .i64 s.1),(9,.int .i64 l.length),(8,.slice a l.length c),(5,ovs s.2 (cP l s.1).length),(1,.func (.func 366) #[] #[])])
  (fun s=>oent 22 1 s.2 (efC l (cP l s.1)) L) (fun _=>h) (fun s=>l.length-s.1) ?_ ?_ ?_ ?_
 ·exact⟨Nat.zero_le _,rfl,trivial⟩
 ·simp [Ent,List.lookup,YT,ovs,cP]
 ·exact Za.refl _ _
 rintro⟨k,o1⟩ ⟨i1,i2,i4⟩;simp only at i1 i2 i4 ⊢;by_cases c1:k<l.length
 ·have hcn:(cP l k).length<=k:=Zbc l k;have hs1:=Zal l k;refine xh ?_;refine ZY fun b7 nb7 zb7=>?_;(try simp only[ZS]at nb7);have n7:=Yx nb7;refine xm ?_;refine JF (gr ZQ l k) ?_;by_cases c2:Jf (gr ZQ l k)=true
  ·have c2':(gr ZQ l k).status=2\/(gr ZQ l k).status=3:=qV;rw[decide_eq_true c2'];rw[if_pos c2]at hs1;refine xm ?_;refine Ymx (k:Int) ?_;refine xm ?_;refine ZY fun b8 nb8 zb8=>?_;(try simp only[ZS]at nb8);refine xx ?_;refine ZZ (t:=25) (e:=22) (sz:=1) (bytes:=8) qg Vw rfl rfl rfl rfl qh [_,_] _ o1 (cP l k).length (efC l (cP l k)) i2 (VH _ _) (Src.own List.mem_cons_self) (m:=1) (news:=[.int .u64 (gr ZQ l k).eff]) rfl qy qm qf ?_;intro o1' j1 j2 j3;have j4:=ZV (ZV j2);have e1:efC l (cP l k)++[.int .u64 (gr ZQ l k).eff]=efC l (cP l (k+1)):=by rw[hs1,JS];rfl
   have e2:(cP l k).length+1=(cP l (k+1)).length:=by rw[hs1];simp
   rw[e2]at j1 ⊢;rw[e1];refine xx ?_;exact⟨k+1,o1',⟨qf,j1,j4⟩,qf,qi,(Za.tail _ _ _).trans (Za.tail _ _ _)⟩
  ·have c2':¬((gr ZQ l k).status=2\/(gr ZQ l k).status=3):=qV;rw[decide_eq_false c2'];rw[if_neg c2]at hs1;refine xx ?_;exact⟨k+1,o1,⟨qf,wH,i4⟩,qf,by simp [Ent,List.lookup,hs1],by rw[hs1];exact Za.tail _ _ _⟩
 ·obtain rfl:k=l.length:=qf;have hcn:(cP l l.length).length<=l.length:=Zbc l l.length;refine xx ?_;refine Yv (n:=(cP l l.length).length) i2 (VH _ _) qf i4 fun h1 le1 sl=>ZP (hk h1 _ le1 (G2 hm sl))
theorem Ybc {l:List Zc}{ks:List Int}(v kv:Value)(hd0:Zd YD 6 h v l)(hn:l.length<=1000)(hm:∀x∈l,Zf x)(hkv:Ints h .u8 kv ks)(b:Nat)(hb:(⟨b,31,[kv],1⟩:Zn)∈L)
  (hk:∀h' r,PH.le h h'->Ints h' .u64 r ((thI l ks l.length).map (Zeg l))->K r L h'):Zb prog 365 [v,.func (.func 379) #[] #[.pointer (some ⟨b,0,none⟩)]] L h K:=by
 obtain⟨a,c,rfl,hc,hl,_,hd⟩:=hd0.open;refine ed func365 ?_;refine xx ?_;refine Yi (γ:=Nat×Option (Nat×Nat)) (0,none) (fun s=>s.1<=l.length/\okO s.2 (thI l ks s.1).length/\apO s.2 L h)
  (fun s=>[(10,.int .i64 s.1),(9,.int .i64 l.length),(8,.slice a l.length c),(5,ovs s.2 (thI l ks s.1).length),(1,.func (.func 379) #[] #[.pointer (some ⟨b,0,none⟩)])])
  (fun s=>oent 22 1 s.2 (efC l (thI l ks s.1)) L) (fun _=>h) (fun s=>l.length-s.1) ?_ ?_ ?_ ?_
 ·exact⟨Nat.zero_le _,rfl,trivial⟩
 ·simp [Ent,List.lookup,YT,ovs,cP,thI]
 ·exact Za.refl _ _
 rintro⟨k,o1⟩ ⟨i1,i2,i4⟩;simp only at i1 i2 i4 ⊢;have hbo:∀(x y:List Zn),(⟨b,31,[kv],1⟩:Zn)∈x++oent 22 1 o1 (efC l (thI l ks k)) L:=fun x y=>by
  refine List.mem_append_right _ ?_
  cases o1 with
  | none=>exact hb
  | some p=>exact List.mem_cons_of_mem _ hb
 by_cases c1:k<l.length
 ·have hcn:(thI l ks k).length<=k:=J8 l ks k;have hs1:=Vc l ks k;refine xh ?_;refine ZY fun b7 nb7 zb7=>?_;(try simp only[ZS]at nb7);have n7:=Yx nb7;refine xm ?_;refine JF (gr ZQ l k) ?_;by_cases c2:Jf (gr ZQ l k)=true
  ·have c2':(gr ZQ l k).status=2\/(gr ZQ l k).status=3:=qV;rw[decide_eq_true c2'];rw[c2,Bool.true_and]at hs1;refine xm ?_;refine Yly kv hkv k qf b (hbo [_] []) ?_;by_cases c3:Wm ks k=true
   ·rw[if_pos c3]at hs1;rw[Yvg c3];refine xm ?_;refine ZY fun b8 nb8 zb8=>?_;(try simp only[ZS]at nb8);refine xx ?_;refine ZZ (t:=25) (e:=22) (sz:=1) (bytes:=8) qg Vw rfl rfl rfl rfl qh [_,_] _ o1 (thI l ks k).length (efC l (thI l ks k)) i2 (VH _ _) (Src.own List.mem_cons_self) (m:=1) (news:=[.int .u64 (gr ZQ l k).eff]) rfl qy qm qf ?_;intro o1' j1 j2 j3;have j4:=ZV (ZV j2);have e1:efC l (thI l ks k)++[.int .u64 (gr ZQ l k).eff]=efC l (thI l ks (k+1)):=by rw[hs1,JS];rfl
    have e2:(thI l ks k).length+1=(thI l ks (k+1)).length:=by rw[hs1];simp
    rw[e2]at j1 ⊢;rw[e1];refine xx ?_;exact⟨k+1,o1',⟨qf,j1,j4⟩,qf,qi,(Za.tail _ _ _).trans (Za.tail _ _ _)⟩
   ·have c3':Wm ks k=false:=by simpa using c3
    rw[if_neg c3]at hs1;rw[Yvg c3'];refine xx ?_;exact⟨k+1,o1,⟨qf,wH,i4⟩,qf,by simp [Ent,List.lookup,hs1],by rw[hs1];exact Za.tail _ _ _⟩
  ·have c2':¬((gr ZQ l k).status=2\/(gr ZQ l k).status=3):=qV;rw[decide_eq_false c2'];rw[show Jf (gr ZQ l k)=false from ww,Bool.false_and]at hs1;simp only[Bool.false_eq_true,if_false]at hs1;refine xx ?_;exact⟨k+1,o1,⟨qf,wH,i4⟩,qf,by simp [Ent,List.lookup,hs1],by rw[hs1];exact Za.tail _ _ _⟩
 ·obtain rfl:k=l.length:=qf;have hcn:(thI l ks l.length).length<=l.length:=J8 l ks l.length;refine xx ?_;refine Yv (n:=(thI l ks l.length).length) i2 (VH _ _) qf i4 fun h1 le1 sl=>ZP (hk h1 _ le1 (G2 hm sl))
theorem Zet {l:List Zc}{ks:List Int}(v kv:Value)(hd0:Zd YD 6 h v l)(hn:l.length<=1000)(hm:∀x∈l,Zf x)(hkv:Ints h .u8 kv ks)
  (hk:∀h',PH.le h h'->K (Zuo (Jd l ks)) L h'):Zb prog 367 [v,kv] L h K:=by
 have hkv0:=hkv;obtain⟨ka,kc,rfl,_⟩:=hkv.open;refine eF func367 ?_;refine xx ?_;refine ZY fun b3 nb3 zb3=>?_;(try simp only[ZS]at nb3);refine xx ?_;refine Ybc v _ hd0 hn hm hkv0 b3 List.mem_cons_self fun h1 r le1 it=>?_;obtain⟨ra,rc,rfl,_⟩:=it.open;rw[List.length_map]at it;simp only[List.length_map];refine xx ?_;refine WO _ it ?_;have hk:=hk h1 le1;rw[show tot ((thI l ks l.length).map (Zeg l))=Jd l ks from rfl];by_cases c:Jd l ks<=18446744073709551615
 ·rw[YR c]at hk ⊢;refine xx ?_;exact ZO (ZP hk)
 ·rw[Wy c]at hk ⊢;refine xx ?_;exact ZO (ZP hk)
theorem Zsa {l:List Zc}{ys ns:List Int}(v yv nv:Value)(hd0:Zd YD 6 h v l)(hn:l.length<=1000)(hm:∀x∈l,Zf x)(hy:Ints h .u8 yv ys)(hno:Ints h .u8 nv ns)(hA:Uu l<=18446744073709551615)
  (hk:∀h',PH.le h h'->K (.tuple #[.agg #[.int .u64 (Jd l ys),.int .u64 (Jd l ns),.int .u64 (Uu l)],.int .i64 0]) L h'):Zb prog 317 [v,yv,nv] L h K:=by
 have p1:=Uj (ks:=ys) hm;have p2:=Uj (ks:=ns) hm;refine eF func317 ?_;refine xx ?_;refine ZY fun b6 nb6 zb6=>?_;(try simp only[ZS]at nb6);refine xx ?_;refine Zb.ap (Ybe v hd0 hn hm fun h1 r le1 it ap=>?_);simp only[Ap]at ap;obtain⟨a1,_⟩:=ap;obtain⟨ra,rc,rfl,_⟩:=it.open;rw[List.length_map]at it;simp only[List.length_map];refine xx ?_;refine WO _ it ?_;rw[show tot ((cP l l.length).map (Zeg l))=Uu l from rfl,YR hA];refine xx ?_;refine Zb.ap (Zet v yv (hd0.up le1) hn hm (hy.up le1) fun h2 le2 ap=>?_);simp only[Ap]at ap;obtain⟨a2,_⟩:=ap;rw[YR (show Jd l ys<=18446744073709551615 from qf)];have le12:=le1.trans le2;refine xx ?_;refine Zb.ap (Zet v nv (hd0.up le12) hn hm (hno.up le12) fun h3 le3 ap=>?_);simp only[Ap]at ap;obtain⟨a3,_⟩:=ap;rw[YR (show Jd l ns<=18446744073709551615 from qf)];refine xx ?_;exact ZO (ZP (hk h3 (le12.trans le3)))
open Go.RowKit
section
variable {P:Program}
def Zhr (h:PH)(b:Nat):PH:=fun b' o=>if b'=b then none else h b' o
theorem Yda {h h2:PH}{b:Nat}(hb:h b=noC)(le:PH.le h h2):PH.le h (Zhr h2 b):=by
 intro b' o v hv;simp only[Zhr];split
 ·rename_i e;rw[e,hb]at hv;cases hv
 ·exact le b' o v hv
theorem Zxp (h:PH)(b:Nat):Zhr h b b=noC:=by
 funext o
 simp [Zhr,noC]
theorem Yfw {h:PH}{b c:Nat}(hc:h c=noC):Zhr h b c=noC:=by
 funext o
 simp only[Zhr];split
 ·rfl
 ·exact congrFun hc o
theorem Zb.lend {f:FuncId}{args:List Value}{L:Own}{h:PH}{K:PK}{b t cap:Nat}{cs:List Value}(heT:t≠4294967295)
  (hs:Zb P f args L (pub h b cs) fun v L' h'=>K v (⟨b,t,cs,cap⟩::L') (Zhr h' b)):Zb P f args (⟨b,t,cs,cap⟩::L) h K:=by
 refine⟨trivial,fun W hg=>?_⟩;obtain⟨g1,_⟩:=Zgp b t cap cs L h heT W hg;have hnd:=hg.nodup;simp only[List.map_cons,List.nodup_cons]at hnd;have hbW:b<W.heap.size:=Zba hg (e:=⟨b,t,cs,cap⟩) List.mem_cons_self;refine(hs.2 W g1).mono fun e W' hh=>?_;obtain⟨v,L2,h2,e1,hk,g2,kp,hfr⟩:=hh;have hb2:∀e∈L2,e.b≠b:=fun e he hb=>by
  rcases hfr e he with hm|hm
  ·exact hnd.1 (by rw[<- hb];exact hm)
  ·omega
 refine⟨v,_,_,e1,hk,⟨fun b' o v hv=>?_,fun e he=>?_,?_,fun e he=>?_⟩,⟨kp.os,kp.tape,kp.output,kp.size,fun k hk' hM=>kp.block k hk' fun hm=>hM ?_⟩,fun e he=>?_⟩
 ·simp only[Zhr]at hv;split at hv
  ·cases hv
  ·exact g2.sub _ _ _ hv
 ·rcases List.mem_cons.1 he with rfl|he
  ·show BlkIs _ W'.heap[b]?;rw[kp.block b hbW hnd.1];exact hg.own _ List.mem_cons_self
  ·exact g2.own e he
 ·simp only[List.map_cons,List.nodup_cons];refine⟨fun hm=>?_,g2.nodup⟩;obtain⟨e,he,hb⟩:=List.mem_map.1 hm;exact hb2 e he hb
 ·rcases List.mem_cons.1 he with rfl|he
  ·exact Zxp h2 b
  ·exact Yfw (g2.apart e he)
 ·simp only[List.map_cons];exact List.mem_cons_of_mem _ hm
 ·rcases List.mem_cons.1 he with rfl|he
  ·exact Or.inl qj
  ·rcases hfr e he with hm|hm
   ·exact Or.inl (by simp only[List.map_cons];exact List.mem_cons_of_mem _ hm)
   ·exact Or.inr hm
def Yip (h:PH):Option (Nat×Nat)->PH
 | none=>h
 | some p=>Zhr h p.1
theorem Zb.lend_o {f:FuncId}{args:List Value}{L:Own}{h:PH}{K:PK}{e sz n:Nat}{o:Option (Nat×Nat)}{cs:List Value}(ho:okO o n)(hl:cs.length=n*sz)(hn:n<=9223372036854775807)
  (hs:Sl (Jh h o cs) (ovs o n) n sz cs->Zb P f args L (Jh h o cs) fun v L' h'=>K v (oent e sz o cs L') (Yip h' o)) (heT:e≠4294967295:=by first|decide|omega):Zb P f args (oent e sz o cs L) h K:=by
 have hs:=hs (WE ho hl hn)
 cases o with
 | none=>exact hs
 | some p=>exact Zb.lend heT hs
end
open Go.RowKit Go.Proofs Go.Bl Go.Proofs.Tryz
variable {L:Own} {h:PH} {K:PK}
theorem Zcb {o:Option (Nat×Nat)}{h h2:PH}{cs:List Value}(ha:apO o L h)(le:PH.le (Jh h o cs) h2):PH.le h (Yip h2 o):=by
 have le2:=(YL ha cs).trans le
 cases o with
 | none=>exact le2
 | some p=>exact Yda ha.2 le2
theorem Zje {l:List Zc}{ks:List Int}(om:Option (Nat×Nat))(ho:okO om l.length)(ha:apO om L h)(kv:Value)(hm:∀x∈l,Zf x)(hkv:Ints h .u8 kv ks)(hn:l.length<=1000)(hA:Uu l<=18446744073709551615)
  (hk:∀h',PH.le h h'->K (.tuple #[.int .u64 (Jd l ks),.int .u64 (Uu l),.int .i64 0]) (oent 74 6 om (l.flatMap YD) L) h') :
  Zb prog 137 [ovs om l.length,kv] (oent 74 6 om (l.flatMap YD) L) h K :=
 Zb.lend_o ho (Z1 Z8 l) qf fun sl=>Zmk _ kv (Zd.pub Z8 sl) hm (hkv.up (YL ha _)) hn hA fun h' le=>hk _ (Zcb ha le)
theorem Zcv {l:List Zc}{ys ns:List Int}(om:Option (Nat×Nat))(ho:okO om l.length)(ha:apO om L h)(yv nv:Value)(hn:l.length<=1000)(hm:∀x∈l,Zf x)(hy:Ints h .u8 yv ys)(hno:Ints h .u8 nv ns)(hA:Uu l<=18446744073709551615)
  (hk:∀h',PH.le h h'->K (.tuple #[.agg #[.int .u64 (Jd l ys),.int .u64 (Jd l ns),.int .u64 (Uu l)],.int .i64 0]) (oent 74 6 om (l.flatMap YD) L) h') :
  Zb prog 317 [ovs om l.length,yv,nv] (oent 74 6 om (l.flatMap YD) L) h K :=
 Zb.lend_o ho (Z1 Z8 l) qf fun sl=>Zsa _ yv nv (Zd.pub Z8 sl) hn hm (hy.up (YL ha _)) (hno.up (YL ha _)) hA fun h' le=>hk _ (Zcb ha le)
theorem Zfx (p:Ze)(ok:Zj p)(m:Zc)(mo:Zf m)(a:Int)(ha:0<=a/\a<=18446744073709551615)(hs:m.bal+a<=18446744073709551615)(hk:K (.tuple #[Zeu (Ur p m a),.int .u64 (a-YS p m a)]) L h):Zb prog 334 [WS p,Zeu m,.int .u64 a] L h K:=by
 have hb:0<=m.bal/\m.bal<=18446744073709551615:=mo.u _ qj;have hc:0<=p.cap/\p.cap<=18446744073709551615:=ok.w _ qB;have h1:0<=YS p m a/\YS p m a<=a:=by unfold YS Wf;split<;>omega
 have tail:∀(t:Int),t=YS p m a->(0<m.bal+t->(m.status=4\/m.status=5)->K (.tuple #[Zeu { m with bal:=m.bal+t,status:=1,eff:=0 },.int .u64 (a-t)]) L h)/\(¬(0<m.bal+t/\(m.status=4\/m.status=5))->K (.tuple #[Zeu { m with bal:=m.bal+t },.int .u64 (a-t)]) L h):=fun t ht=>by
  subst ht;unfold Ur at hk;exact⟨fun u w=>by rwa [if_pos ⟨u,w⟩]at hk,fun u=>by rwa [if_neg u]at hk⟩
 refine eF func334 ?_;refine xx ?_;refine ZY fun b3 nb3 zb3=>?_;(try simp only[ZS]at nb3);refine xx ?_;refine ZY fun b4 nb4 zb4=>?_;(try simp only[ZS]at nb4);have n4:=nb4.1;clear nb4;refine xx ?_;refine ZY fun b6 nb6 zb6=>?_;(try simp only[ZS]at nb6);have n6:=nb6.1;have n6':=nb6.2.1;clear nb6;refine xx ?_;by_cases c0:m.bal<p.cap
 ·have ht:min a (p.cap-m.bal)=YS p m a:=by unfold YS Wf;rw[if_pos qf]
  obtain⟨t,hte⟩:∃t,t=YS p m a:=⟨_,rfl⟩
  obtain⟨k1,k2⟩:=tail t hte;rw[<- hte]at ht h1;simp -dsimp -implicitDefEqProofs (disch:=first|exact dD|fail) [go_sem,Zkv,ht];by_cases c1:0<m.bal+t
  ·by_cases c2:3<m.status
   ·by_cases c3:m.status<6
    ·have kk:=k1 qf qf;refine fV ?_;exact ZO (ZO (ZO (ZP kk)))
    ·have kk:=k2 qf;refine fV ?_;exact ZO (ZO (ZO (ZP kk)))
   ·have kk:=k2 qf;refine fV ?_;exact ZO (ZO (ZO (ZP kk)))
  ·have kk:=k2 qf;refine fV ?_;exact ZO (ZO (ZO (ZP kk)))
 ·have ht:0=YS p m a:=by unfold YS Wf;split<;>omega
  obtain⟨k1,k2⟩:=tail 0 ht;clear ht;simp only[Int.add_zero,Int.sub_zero]at k1 k2;refine xx ?_;by_cases c1:0<m.bal
  ·by_cases c2:3<m.status
   ·by_cases c3:m.status<6
    ·have kk:=k1 qf qf;refine xx ?_;exact ZO (ZO (ZO (ZP kk)))
    ·have kk:=k2 qf;refine xx ?_;exact ZO (ZO (ZO (ZP kk)))
   ·have kk:=k2 qf;refine xx ?_;exact ZO (ZO (ZO (ZP kk)))
  ·have kk:=k2 qf;refine xx ?_;exact ZO (ZO (ZO (ZP kk)))
theorem Zsl {l:List Zh}(v:Value)(hv:Zd Yh 3 h v l)(hl:l.length<=34000)(e:Int)
  (hk:∀h' r1 r2,PH.le h h'->Zd Yh 3 h' r1 (l.filter (Ut e true))->Zd Yh 3 h' r2 (l.filter (Ut e false))->K (.tuple #[r1,r2]) L h'):Zb prog 244 [v,.int .i64 e] L h K:=by
 obtain⟨a,c,rfl,hcap,hln,_,hcs⟩:=hv.open;refine eF func244 ?_;refine xx ?_;refine Yi (γ:=Nat×Option (Nat×Nat)×Option (Nat×Nat)) (0,none,none) (fun q=>q.1<=l.length/\okO q.2.1 (Vh l e true q.1).length/\okO q.2.2 (Vh l e false q.1).length/\apO q.2.1 (oent 216 3 q.2.2 ((Vh l e false q.1).flatMap Yh) L) h/\apO q.2.2 L h)
  (fun q=>[(8,.int .i64 q.1),(0,.slice a l.length c),(1,.int .i64 e),(6,ovs q.2.1 (Vh l e true q.1).length),(7,ovs q.2.2 (Vh l e false q.1).length)])
  (fun q=>oent 216 3 q.2.1 ((Vh l e true q.1).flatMap Yh) (oent 216 3 q.2.2 ((Vh l e false q.1).flatMap Yh) L)) (fun _=>h) (fun q=>l.length-q.1) ?_ ?_ ?_ ?_
 ·exact⟨Nat.zero_le _,by show (Vh l e true 0).length=0;simp [Vh],by show (Vh l e false 0).length=0;simp [Vh],trivial,trivial⟩
 ·simp [Ent,List.lookup,YT,ovs,Vh]
 ·exact Za.refl _ _
 rintro⟨k,o1,o2⟩ ⟨i1,i2,i3,i4,i5⟩;simp only at i1 i2 i3 i4 i5 ⊢;have tl:=Zbn l e true k;have dl:=Zbn l e false k;by_cases c1:k<l.length
 ·have ht:=GR (e:=e) (b:=true) c1;have hf:=GR (e:=e) (b:=false) c1;have g1:∀(L:Own) (K:Value->Prop) (t:Zm K),Um L h (UI a (k*3+1)) 0 K t=K (.int .i64 (gr ZT l k).at'):=fun L K t=>hcs.fld ZT c1 rfl L K t;simp -dsimp -implicitDefEqProofs (disch:=first|exact dD|fail) [go_sem,↓Us ZT qh hcs,g1];by_cases c2:(gr ZT l k).at'<=e
  ·rw[if_pos zD]at ht;rw[if_neg zD,List.append_nil]at hf;have e3:(Vh l e true k).length+1=(Vh l e true (k+1)).length:=by rw[ht];simp
   refine fQ ?_;refine ZY fun b1 nb1 zb1=>?_;(try simp only[ZS]at nb1);refine xx ?_;refine ZZ (t:=42) (e:=216) (sz:=3) (bytes:=24) qg Zcn rfl rfl rfl rfl qh [_] _ o1 _ _ i2 (VA l e true k) (Src.own List.mem_cons_self) (m:=1) (news:=Yh (gr ZT l k)) rfl (by intro u hu;simp only[Yh,List.mem_cons,List.not_mem_nil,or_false]at hu;rcases hu with rfl|rfl|rfl<;>rfl) qm qf ?_;intro o1' j1 j2 j3;rw[e3]at j1;rw[e3,show (Vh l e true k).flatMap Yh++Yh (gr ZT l k)=(Vh l e true (k+1)).flatMap Yh by rw[ht,List.flatMap_append];simp];refine xx ?_;exact⟨k+1,o1',o2,⟨qf,j1,by rw[hf];exact i3,by rw[hf];exact ZV j2,i5⟩,qf,by simp [Ent,List.lookup,hf],by rw[hf];exact Za.tail _ _ _⟩
  ·rw[if_neg zD,List.append_nil]at ht;rw[if_pos zD]at hf;have e3:(Vh l e false k).length+1=(Vh l e false (k+1)).length:=by rw[hf];simp
   refine fQ ?_;refine ZY fun b1 nb1 zb1=>?_;(try simp only[ZS]at nb1);refine xx ?_;rw[YJ (e:=216) o1];refine ZZ (t:=42) (e:=216) (sz:=3) (bytes:=24) qg Zcn rfl rfl rfl rfl qh (_::oent 216 3 o1 _ []) _ o2 _ _ i3 (VA l e false k) (Src.own List.mem_cons_self) (m:=1) (news:=Yh (gr ZT l k)) rfl (by intro u hu;simp only[Yh,List.mem_cons,List.not_mem_nil,or_false]at hu;rcases hu with rfl|rfl|rfl<;>rfl) qm qf ?_;intro o2' j1 j2 j3;rw[e3]at j1;rw[e3,show (Vh l e false k).flatMap Yh++Yh (gr ZT l k)=(Vh l e false (k+1)).flatMap Yh by rw[hf,List.flatMap_append];simp];simp only[List.cons_append];rw[<- YJ (e:=216) o1];refine xx ?_;have l5:=JM (e2:=216) (sz2:=3) (cs2:=(Vh l e false (k+1)).flatMap Yh) (YH i4) (ZV j2);exact⟨k+1,o1,o2',⟨qf,by rw[ht];exact i2,j1,l5.1,l5.2⟩,qf,by simp [Ent,List.lookup,ht],by rw[ht];exact Za.tail _ _ _⟩
 ·obtain rfl:l.length=k:=qf;have e1:Vh l e true l.length=l.filter (Ut e true):=by unfold Vh;rw[List.take_length]
  have e2:Vh l e false l.length=l.filter (Ut e false):=by unfold Vh;rw[List.take_length]
  have f1:=VA l e true l.length;have f2:=VA l e false l.length;rw[e1]at i2 tl f1;rw[e2]at i3 i4 dl f2;rw[e1,e2];obtain⟨x1,y1,q1,_⟩:=Z5 i2;obtain⟨x2,y2,q2,_⟩:=Z5 i3;rw[q1,q2];refine xx ?_;refine GL (n1:=(l.filter (Ut e true)).length) (n2:=(l.filter (Ut e false)).length) i2 f1 qf i3 f2 qf i4 i5 fun h1 le1 s1 s2=>ZP ?_;have:=hk h1 _ _ le1 (Zd.pub Yd s1) (Zd.pub Yd s2)
  rwa [q1,q2]at this
theorem Zoi (p:Ze)(hr:Yo p=true)(m:Zc)(mo:Zf m)(hk:K (.tuple #[Zeu (Wo p m).1,.bool (Wo p m).2]) L h):Zb prog 246 [WS p,Zeu m] L h K:=by
 have hb:0<=m.bal/\m.bal<=18446744073709551615:=mo.u _ qj;refine eF func246 ?_;refine xx ?_;refine ZY fun b1 nb1 zb1=>?_;(try simp only[ZS]at nb1);refine xx ?_;refine ZY fun b2 nb2 zb2=>?_;(try simp only[ZS]at nb2);refine xx ?_;refine ZY fun b3 nb3 zb3=>?_;(try simp only[ZS]at nb3);refine xx ?_;by_cases c1:m.status=1
 ·by_cases c2:m.bal<=p.floor
  ·rw[Wo,if_neg qf]at hk;refine xx ?_;exact ZO (ZO (ZO (ZP hk)))
  ·by_cases c3:m.bal<=p.cap
   ·rw[Wo,if_pos ⟨c1,qf,c3⟩]at hk;refine xx ?_;refine U2 p m.bal (Ul hr) hb ?_;refine xx ?_;exact ZO (ZO (ZO (ZP hk)))
   ·rw[Wo,if_neg qf]at hk;refine xx ?_;exact ZO (ZO (ZO (ZP hk)))
 ·rw[Wo,if_neg qf]at hk;refine xx ?_;exact ZO (ZO (ZO (ZP hk)))
theorem Ztc {ql:List QM}{ms:List Zl}(v:Value)(hv:Zd YQ 33 h v ql)(hq:ql.map (fun x=>x.2.2)=ms)(hm:YU h ql)(hl:ql.length<=1000)(now:Int)(qu:Bool)
  (hk:∀h' r,PH.le h h'->Ints h' .i64 r (Wh ms now qu ms.length)->K r L h'):Zb prog 248 [v,.int .i64 now,.bool qu] L h K:=by
 have hql:ql.length=ms.length:=qW;obtain⟨va,vc,rfl,_,_,_,hd⟩:=hv.open;rw[hql]at hd;refine ed func248 ?_;refine xx ?_;rw[hql];refine Yi (γ:=Nat×Option (Nat×Nat)) (0,none) (fun q=>q.1<=ms.length/\okO q.2 (Wh ms now qu q.1).length/\apO q.2 L h) (fun q=>[(8,.int .i64 q.1),(0,.slice va ms.length vc),(7,ovs q.2 (Wh ms now qu q.1).length),(1,.int .i64 now),(2,.bool qu)]) (fun q=>oent 3 1 q.2 ((Wh ms now qu q.1).map (.int .i64)) L) (fun _=>h) (fun q=>ms.length-q.1) ?_ ?_ ?_ ?_
 ·exact⟨Nat.zero_le _,rfl,trivial⟩
 ·simp [Ent,List.lookup,YT,ovs,Wh]
 ·exact Za.refl _ _
 rintro⟨j,o⟩ ⟨j1,j2,j3⟩;simp only at j1 j2 j3 ⊢;have hrl:=GQ ms now qu j;by_cases c1:j<ms.length
 ·have hs:=Zgh ms now qu j;obtain⟨qk,hqk⟩:∃qk,qk=gr Z0 ql j:=⟨_,rfl⟩
  have hmem:qk∈ql:=by rw[hqk,Ye qf];exact List.getElem_mem _
  have hmk:Zr h qk:=hm qk hmem;have hgm:gr Yb ms j=qk.2.2:=by
   have e:ms[j]?=some qk.2.2:=by
    rw[<- hq,List.getElem?_map,List.getElem?_eq_getElem qf,<- Ye (z:=Z0) qf,<- hqk]
    rfl
   rw[List.getElem?_eq_getElem c1]at e;rw[Ye c1];exact Option.some.inj e
  rw[hgm]at hs;have hy:=hmk.y;have hn:=hmk.n;obtain⟨vy,vn,md⟩:=qk;simp only at hy hn hs;obtain⟨ya,yc,rfl,_⟩:=hy.open;obtain⟨na,nc,rfl,_⟩:=hn.open;have g30:∀(L:Own) (K:Value->Prop) (t:Zm K),Um L h (UI va (j*33+30)) 0 K t=K (.int .i64 md.state):=fun L K t=>hd.fld Z0 qf qM L K t;have g29:∀(L:Own) (K:Value->Prop) (t:Zm K),Um L h (UI va (j*33+29)) 0 K t=K (.int .i64 md.due):=fun L K t=>hd.fld Z0 qf qM L K t;have g1:∀(L:Own) (K:Value->Prop) (t:Zm K),Um L h (UI va (j*33+1)) 0 K t=K (.int .i64 md.what):=fun L K t=>hd.fld Z0 qf qM L K t;have hjq:j<ql.length:=qf;refine fZ ?_;by_cases c2:md.state=2
  ·by_cases c3:md.due<=now
   ·cases qu with
    | true =>
     rw[if_pos (by simp [Zap,c2,c3])]at hs;refine fZ ?_;refine ZY fun b10 nb10 zb10=>?_;(try simp only[ZS]at nb10);refine fZ ?_;refine ZZ (t:=27) (e:=3) (sz:=1) (bytes:=8) qg V6 rfl rfl rfl rfl qh [_] L o (Wh ms now true j).length _ j2 qj (Src.own List.mem_cons_self) (m:=1) (news:=[.int .i64 j]) rfl (fun u hu=>qw) qm qf ?_;intro o' i1 i2 i3;refine fZ ?_;have hsl:(Wh ms now true (j+1)).length=(Wh ms now true j).length+1:=by rw[hs,List.length_append];rfl
     refine⟨j+1,o',⟨qf,zG,ZV i2⟩,qf,qR,?_⟩;simp only[hs,List.map_append,List.map_cons,List.map_nil];exact Za.tail _ _ _
    | false =>
     by_cases c5:md.what=3
     ·rw[if_pos (by simp [Zap,c2,c3,c5])]at hs;refine fZ ?_;refine ZY fun b10 nb10 zb10=>?_;(try simp only[ZS]at nb10);refine fZ ?_;refine ZZ (t:=27) (e:=3) (sz:=1) (bytes:=8) qg V6 rfl rfl rfl rfl qh [_] L o (Wh ms now false j).length _ j2 qj (Src.own List.mem_cons_self) (m:=1) (news:=[.int .i64 j]) rfl (fun u hu=>qw) qm qf ?_;intro o' i1 i2 i3;refine fZ ?_;have hsl:(Wh ms now false (j+1)).length=(Wh ms now false j).length+1:=by rw[hs,List.length_append];rfl
      refine⟨j+1,o',⟨qf,zG,ZV i2⟩,qf,qR,?_⟩;simp only[hs,List.map_append,List.map_cons,List.map_nil];exact Za.tail _ _ _
     ·by_cases c6:md.what=4
      ·rw[if_pos zZ]at hs;refine fZ ?_;refine ZY fun b10 nb10 zb10=>?_;(try simp only[ZS]at nb10);refine fZ ?_;refine ZZ (t:=27) (e:=3) (sz:=1) (bytes:=8) qg V6 rfl rfl rfl rfl qh [_] L o (Wh ms now false j).length _ j2 qj (Src.own List.mem_cons_self) (m:=1) (news:=[.int .i64 j]) rfl (fun u hu=>qw) qm qf ?_;intro o' i1 i2 i3;refine fZ ?_;have hsl:(Wh ms now false (j+1)).length=(Wh ms now false j).length+1:=by rw[hs,List.length_append];rfl
       refine⟨j+1,o',⟨qf,zG,ZV i2⟩,qf,qR,?_⟩;simp only[hs,List.map_append,List.map_cons,List.map_nil];exact Za.tail _ _ _
      ·rw[if_neg zZ,List.append_nil]at hs;refine fZ ?_;exact⟨j+1,o,⟨qf,zJ,j3⟩,qf,qK,zx⟩
   ·rw[if_neg (by simp [Zap,c2,c3]),List.append_nil]at hs;refine fZ ?_;exact⟨j+1,o,⟨qf,zJ,j3⟩,qf,qK,zx⟩
  ·rw[if_neg (by simp [Zap,c2]),List.append_nil]at hs;refine fZ ?_;exact⟨j+1,o,⟨qf,zJ,j3⟩,qf,qK,zx⟩
 ·obtain rfl:j=ms.length:=qf;refine xx ?_;refine Yv (n:=(Wh ms now qu ms.length).length) j2 qj qf j3 fun h3 le3 sl=>ZP (hk h3 _ le3 ⟨sl,fun z hz=>?_⟩);have:=Zdl hz;rw[show IntKind.i64.min = -9223372036854775808 from qh,show IntKind.i64.max=9223372036854775807 from qh];omega
theorem Zfm {l:List QS}{marks:List Int}(v u:Value)(hv:Zx h v l)(hu:Ints h .u8 u marks)(hl:l.length<=1000)
  (hk:∀h' r q,PH.le h h'->Zx h' r q->xsL q=GE (xsL l) marks->K r L h'):Zb prog 250 [v,u] L h K:=by
 have hu0:=hu;obtain⟨a,c,rfl,hcap,hln,_,hcs,hd⟩:=hv.open;obtain⟨xa,xc,rfl,_⟩:=hu.open;refine ed func250 ?_;refine xx ?_;refine ZY fun b5 nb5 zb5=>?_;(try simp only[ZS]at nb5);refine xx ?_;refine ZZ (t:=32) (e:=31) (sz:=1) (bytes:=24) qg Zvo rfl rfl rfl rfl qh [_] L none 0 [] rfl rfl (Src.own List.mem_cons_self) (m:=1) (news:=[.slice xa marks.length xc]) rfl (fun u hu=>qw) zX qf ?_;intro o0 j1 j2 j3;simp only[Nat.zero_add,List.nil_append]at j1 j2 ⊢;have j2':=ZV j2;refine xx ?_;refine Yi (γ:=Nat×Option (Nat×Nat)×List QS) (0,o0,[(.slice xa marks.length xc,marks)])
  (fun q=>q.1<=l.length/\q.1<=7/\okO q.2.1 q.2.2.length/\apO q.2.1 L h/\xsL q.2.2=marks::(xsL l).take q.1/\QsOk h q.2.2)
  (fun q=>[(6,.int .i64 q.1),(0,.slice a l.length c),(5,ovs q.2.1 q.2.2.length)])
  (fun q=>oent 31 1 q.2.1 (vsL q.2.2) L) (fun _=>h) (fun q=>l.length-q.1) ?_ ?_ ?_ ?_
 ·refine⟨Nat.zero_le _,qf,j1,j2',by simp [xsL],fun p hp=>?_⟩;rw[List.mem_singleton]at hp;subst hp;exact hu0
 ·simp [Ent,List.lookup,YT]
 ·simp only[vsL,List.map_cons,List.map_nil];exact Za.tail _ _ _
 rintro⟨k,o,q⟩ ⟨k1,k1',k3,k4,k5,k6⟩;simp only at k1 k1' k3 k4 k5 k6 ⊢;have hxl:(xsL l).length=l.length:=Wu l;have hql:q.length=1+k:=by
  rw[<- Wu q,k5,List.length_cons,List.length_take];omega
 by_cases c1:k<l.length
 ·by_cases c2:k<7
  ·have hg:=hd.at c1;have htk:(xsL l)[k]?=some (gs l k).2:=Zpt c1;obtain⟨qk,hqk⟩:∃qk,qk=gs l k:=⟨_,rfl⟩
   rw[<- hqk]at hg htk;obtain⟨vk,xk⟩:=qk;simp only at hg htk;obtain⟨ya,yc,rfl,_⟩:=hg.open;have hqs:=hqk.symm;simp -dsimp -implicitDefEqProofs (disch:=first|exact dD|fail) [go_sem,idx hcs,hqs];refine ZY fun b6 nb6 zb6=>?_;(try simp only[ZS]at nb6);refine xx ?_;refine ZZ (t:=32) (e:=31) (sz:=1) (bytes:=24) qg Zvo rfl rfl rfl rfl qh [_] L o q.length (vsL q) k3 (by simp [vsL]) (Src.own List.mem_cons_self) (m:=1) (news:=[.slice ya xk.length yc]) rfl (fun u hu=>qw) qm qf ?_;intro o' i1 i2 i3;refine xx ?_;refine⟨k+1,o',q++[(.slice ya xk.length yc,xk)],⟨qf,qf,by simpa using i1,ZV i2,?_,fun p hp=>?_⟩,qf,qi,?_⟩
   ·rw[List.take_add_one,htk];simp only[xsL,List.map_append,List.map_cons,List.map_nil]at k5 ⊢;rw[k5]
    rfl
   ·rcases List.mem_append.1 hp with hp|hp
    ·exact k6 p hp
    ·rw[List.mem_singleton]at hp;subst hp;exact hg
   ·simp only[vsL,List.map_append,List.map_cons,List.map_nil];exact Za.tail _ _ _
  ·refine xx ?_;refine Yv (n:=q.length) k3 (by simp [vsL]) qf k4 fun h3 le3 sl=>ZP ?_;refine hk h3 _ q le3 ⟨sl,fun p hp=>(k6 p hp).up le3⟩ ?_;rw[k5,GE]
   congr 1
   rw[show k=7 from qf]
 ·refine xx ?_;refine Yv (n:=q.length) k3 (by simp [vsL]) qf k4 fun h3 le3 sl=>ZP ?_;refine hk h3 _ q le3 ⟨sl,fun p hp=>(k6 p hp).up le3⟩ ?_;rw[k5,GE]
  congr 1
  rw[List.take_of_length_le qf,List.take_of_length_le qf]
theorem Zb.entr {P:Program}{f:FuncId}{args:List Value}{L:Own}{h:PH}{K:PK}(hs:Ap L h->Nd L->Zb P f args L h K):Zb P f args L h K :=
 ⟨trivial,fun W hg=>(hs (Ap.of hg.apart) (Nd.of hg.nodup)).2 W hg⟩
theorem Zha {e sz:Nat}{o:Option (Nat×Nat)}{xs:List Value}{x:Zn}{L:Own}(nd:Nd (oent e sz o xs (x::L))):apB o x.b/\Nd (oent e sz o xs L):=by
 cases o with
 | none=>exact⟨trivial,nd.2⟩
 | some p=>exact⟨Ne.symm nd.1.1,nd.1.2,nd.2.2⟩
theorem Yq {e sz e2 sz2:Nat}(o o2:Option (Nat×Nat))(xs ys:List Value)(L:Own):(oent e sz o xs (oent e2 sz2 o2 ys L)).Perm (oent e2 sz2 o2 ys (oent e sz o xs L)):=by
 cases o with
 | none=>exact List.Perm.refl _
 | some p=>cases o2 with
  | none=>exact List.Perm.refl _
  | some p2=>exact List.Perm.swap _ _ _
theorem Yk {e sz:Nat}{o:Option (Nat×Nat)}{xs:List Value}{L:Own}{h:PH}(ap:Ap (oent e sz o xs L) h):apO o [] h:=by
 cases o with
 | none=>trivial
 | some p=>exact⟨trivial,ap.1⟩
theorem Z3 {e sz b:Nat}{o:Option (Nat×Nat)}{xs:List Value}{L:Own}(ha:ZS b (oent e sz o xs L)):apB o b:=by
 cases o with
 | none=>trivial
 | some p=>exact ha.1
theorem Yah {v:SV}{s:Zg}(hs:Zp h v s)(hf:YY s=true):ZD s.ae s.ag/\Yo s.par=true/\(0<=s.ep/\s.ep<=1073741824)/\(s.ag.length<=64/\s.ae.length<=128)/\tot s.ag+tot (s.ae.map Zc.bal)+tot (s.ai.map Zh.amt)<=4611686018427387904:=by
 simp only[YY,Bool.and_eq_true]at hf;obtain⟨⟨⟨⟨⟨⟨⟨⟨f1,f2⟩,f3⟩,f4⟩,f5⟩,f6⟩,f7⟩,f8⟩,f9⟩:=hf;simp only[WU,Bool.and_eq_true,decide_eq_true_eq,List.all_eq_true]at f5;simp only[VG,Bool.and_eq_true,decide_eq_true_eq,List.all_eq_true]at f4;simp only[Wn,Bool.and_eq_true,decide_eq_true_eq]at f9;rw[wi_iff]at f2;have f41:=wi_iff.1 f4.1;have p0:=hs.parts;have u1:=hs.ok.u s.aG qj;have u2:=hs.ok.u s.an qj;have ht:tot s.ag+tot (s.ae.map Zc.bal)+tot (s.ai.map Zh.amt)<=4611686018427387904:=by
  have e:=f9.2;simp only[Zlo,Zra,Zoy,GB,Zqk]at e p0;omega
 have p4:0<=tot (s.ai.map Zh.amt):=p0.2.2.2;refine⟨⟨hs.mo,fun x hx=>?_,fun i=>(hs.p.word i).1,qf⟩,f1,f2,⟨qf,f5.1.1.1⟩,ht⟩;have:=(f5.1.1.2 x hx).2;rw[Y8,wi_iff]at this;omega
end Go.X
