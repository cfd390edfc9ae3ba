/- Lemmas and contracts. Conditions: as each says. -/
import Derived.Test.YtllhopbilpdpkaaGreatQ18
import Derived.Test.YtllhopbilpdpkaaGreatQ21
set_option linter.unusedVariables false
set_option linter.unusedSimpArgs false
set_option maxHeartbeats 12800000
set_option maxRecDepth 20000
namespace Go.X
open Go.RowKit Go.Proofs Go.Bl Go.Proofs.Tryz
variable {L:Own} {h:PH} {K:PK}
def Vl (s:Zd)(i:Nat):Zq:={ Y6 s i with ends:=if Zmx s i then 4 else 0 }
def exK (s:Zd)(k:Nat):List Int:=exF s s.exit ((cI s).take k)
theorem Zmn {s:Zd}{k:Nat}(hk:k<(cI s).length):exK s (k+1)=if Zmx s (cI s)[k] then flt (exK s k) (cI s)[k] else exK s k:=by
 unfold exK exF;rw[List.take_succ_eq_append_getElem hk,List.foldl_append]
 rfl
theorem G2 (s:Zd):∀k,(exK s k).Sublist s.exit
 | 0=>by simp [exK,exF]
 | k+1=>by
  by_cases hk:k<(cI s).length
  ·rw[Zmn hk];split
   ·exact List.filter_sublist.trans (G2 s k)
   ·exact G2 s k
  ·have e:(cI s).take (k+1)=(cI s).take k:=by rw[List.take_of_length_le (by omega),List.take_of_length_le (by omega)]
   unfold exK;rw[e];exact G2 s k
theorem Yia (s:Zd):exK s (cI s).length=exF s s.exit (cI s):=by unfold exK;rw[List.take_length]
theorem Znj {e sz:Nat}{o:Option (Nat×Nat)}{xs:List Value}{L:Own}(nd:Nd (oent e sz o xs L)):∀x∈L,apB o x.b:=by
 cases o with
 | none=>exact fun _ _=>trivial
 | some p=>exact fun x hx=>Ne.symm (U2 nd.1 x hx)
theorem Zxl {o:Option (Nat×Nat)}{n m:Nat}(ho:okO o n)(hm:m≤n):okO o m:=by
 cases o with
 | none=>have:n=0:=ho;show m=0;omega
 | some p=>exact⟨Nat.le_trans hm ho.1,ho.2⟩
theorem Zto (s:Zd)(i:Nat):(Y6 s i).mem=i∧(Y6 s i).there=thB s i∧(Y6 s i).ends=0∧(Y6 s i).paid=0:=by
 unfold Y6;split
 ·rename_i c;exact⟨rfl,c.symm,rfl,rfl⟩
 ·rename_i c;exact⟨rfl,by simpa using c,rfl,rfl⟩
theorem Zxn {s:Zd}(v:SV)(hs0:Zr h v s)(H:SlH s)(bh bs cs bn cn:Nat)(hcs:(cI s).length≤cs)(hcn:(cI s).length≤cn)
  (hk:∀h',PH.le h h'→K (.tuple #[]) (shB bh s v (Ym s) (Y7 s) (.slice (some ⟨bs,0,none⟩) (cI s).length cs) (.slice (some ⟨bn,0,none⟩) (cI s).length cn)::slB bs cs ((cI s).map (Yk s))::nwB bn cn ((cI s).map (YI s))::L) h') :
  Zc prog 82 [.pointer (some ⟨bh,0,none⟩)] (shB bh s v (Ym s) (Y7 s) (.slice (some ⟨bs,0,none⟩) (cI s).length cs) (.slice (some ⟨bn,0,none⟩) (cI s).length cn)::slB bs cs ((cI s).map (Y6 s))::nwB bn cn ((cI s).map (YI s))::L) h K:=by
 have hs:=hs0;obtain⟨pa,pc,ma,mc,ea,ec,xa,xc,oa,oc,da,dc,ta,tc,ka,kc,ra,rc,rfl⟩:=hs.slices;have hxv:=hs0.x;have hl:=H.len;have hxl:=H.xl;have hcl:(cI s).length≤s.members.length:=VW _ _;have hch:=Z7 H.r;obtain⟨n,hn⟩:∃n,n=(cI s).length:=⟨_,rfl⟩
 simp only[shB,stC,slB,nwB,List.cons_append,List.nil_append,← hn]at hk hcs hcn ⊢;refine Z3 func82 rfl (rs:=[]) rfl rfl ZW (by kernel_rfl) rfl rfl fun ap nd=>?_;have hbh:h bh=noC:=ap.1;have hbs:h bs=noC:=ap.2.1;have hbn:h bn=noC:=ap.2.2.1;have nsh:bs≠bh:=nd.1.1;have nnh:bn≠bh:=nd.1.2.1;have nns:bn≠bs:=nd.2.1.1;clear ap nd;refine xx ?_;refine Zc.apn (Zdf _ hxv (by omega) (fun z hz=>(H.xb z hz).1) H.xn fun bl o _ _ ho ap nd=>?_);have hbl:h bl=noC:=ap.1;have nl:=Ya nd.1;simp only[ZT]at nl;have nlh:bh≠bl:=nl.1;have nls:bs≠bl:=nl.2.1;have nln:bn≠bl:=nl.2.2.1;have no:=Znj nd.2;have mh:apB o bh:=no _ List.mem_cons_self;have ms:apB o bs:=no _ (List.mem_cons_of_mem _ List.mem_cons_self);have mn:apB o bn:=no _ (List.mem_cons_of_mem _ (List.mem_cons_of_mem _ List.mem_cons_self));clear ap nd nl no;simp -dsimp -implicitDefEqProofs (disch:=first|with_reducible assumption|omega) [go_sem,ZR mh,ZR ms,ZR mn];refine YO (γ:=Nat×PH) (0,h) (fun q=>q.1≤n∧okO o (exK s q.1).length∧PH.le h q.2∧q.2 bl=noC∧q.2 bh=noC∧q.2 bs=noC∧q.2 bn=noC)
  (fun q=>[(23,.int .i64 q.1),(22,.int .i64 n),(2,.pointer (some ⟨bl,0,none⟩)),(0,.pointer (some ⟨bh,0,none⟩))])
  (fun q=>lnB bl o (exK s q.1).length::lnL o (exK s q.1) (shB bh s ⟨.slice pa s.purses.length pc,.slice ma s.members.length mc,.slice ea s.entry.length ec,.slice xa s.exit.length xc,.slice oa s.pool.length oc,.slice da s.dues.length dc,.slice ta s.motions.length tc,.slice ka s.marks.length kc,.slice ra s.ring.length rc⟩ (Ym s) (Y7 s) (.slice (some ⟨bs,0,none⟩) n cs) (.slice (some ⟨bn,0,none⟩) n cn)::slB bs cs (VF (Vl s) (Y6 s) (cI s) q.1)::nwB bn cn ((cI s).map (YI s))::L)) (fun q=>q.2) (fun q=>n-q.1) ?_ ?_ ?_ ?_
 ·exact⟨Nat.zero_le _,by simpa [exK,exF] using ho,PH.le_refl h,hbl,hbh,hbs,hbn⟩
 ·simp [Ent,List.lookup,Wo]
 ·rw[Zcu,show exK s 0=s.exit by simp [exK,exF]];exact Za.refl _ _
 rintro⟨k,h1⟩ ⟨i1,i2,i3,i4,i5,i6,i7⟩;simp only[shB,stC,slB,nwB,lnB,lnL,List.cons_append,List.nil_append]at i1 i2 i3 i4 i5 i6 i7 ⊢;by_cases c1:k<n
 ·have c1':k<(cI s).length:=by omega
  have hsub:=G2 s k;have hxs:=Zmn c1';obtain⟨i,hi⟩:∃i,i=(cI s)[k]:=⟨_,rfl⟩
  rw[← hi]at hxs;have hil:i<s.members.length:=by rw[hi];exact Zsw c1'
  have gs:gr Yb (VF (Vl s) (Y6 s) (cI s) k) k=Y6 s i:=by rw[Jj Yb c1',hi]
  have gn:gr ZQ ((cI s).map (YI s)) k=YI s i:=by rw[Zng ZQ _ c1',hi]
  have kl1:k<(VF (Vl s) (Y6 s) (cI s) k).length:=by rw[Y8];exact c1'
  have kl2:k<((cI s).map (YI s)).length:=by simpa using c1'
  have hst1:=Uj (f:=Vl s) (g:=Y6 s) c1';have hsm1:=VR (f:=Vl s) (g:=Y6 s) c1';have ml1:(VF (Vl s) (Y6 s) (cI s) k).length=n:=by rw[Y8,hn]
  rw[← hi]at hst1 hsm1;have hf:=Zto s i
  generalize VF (Vl s) (Y6 s) (cI s) k=M1 at *
  have g0:∀(K:Value→Prop) (t:Zk K),Wz (M1.flatMap slC) (k*8) K t=K (.int .i64 i):=fun K t=>Z1 Yo Yb _ (m:=0) kl1 (by decide) (by rw[gs,← hf.1];rfl) K t;have w0:∀(K:Value→Prop) (t:Zk K),Wz (((cI s).map (YI s)).flatMap sdC) (k*4) K t=K (.int .u64 (YI s i).bal):=fun K t=>Z1 YQ ZQ _ (m:=0) kl2 (by decide) (by rw[gn];rfl) K t;simp -dsimp -implicitDefEqProofs (disch:=first|with_reducible assumption|omega) [go_sem,ZR mh,ZR ms,ZR mn];refine Yn (.tk 0 (.tk 1 (.tk 2 (.tk 4 (.tk 8 (.tk 9 (.tk 10 (.tk 11 (.tk 12 (.tkl 3 (.tk 5 (.tk 6 (.tkl 7 (.tkl 13 (.tk 14 (.fin)))))))))))))))) (by kernel_rfl) (by kernel_rfl) _ (Za.refl _ _) ?_;simp -dsimp -implicitDefEqProofs (disch:=first|with_reducible assumption|omega) [go_sem,ZR mh,ZR ms,ZR mn,w0];by_cases c2:(YI s i).bal≤s.par.floor
  ·have co:Zmx s i=true:=decide_eq_true c2;rw[if_pos co]at hxs;simp -dsimp -implicitDefEqProofs (disch:=first|with_reducible assumption|omega) [go_sem,ZR mh,ZR ms,ZR mn,g0];refine Zc.ap (Zum o i2 (Nat.le_trans hsub.length_le (by omega)) i (by omega) (fun z hz=>by have:=H.xb z (hsub.mem hz);omega) (hsub.nodup H.xn) fun h2 b2 le2 ap=>?_);have hbl2:h2 bl=noC:=ap.1;have ap2:=Ap.oent ap.2;simp only[Ap]at ap2;obtain⟨hbh2,hbs2,hbn2,_⟩:=ap2;clear ap;rw[← hxs];simp -dsimp -implicitDefEqProofs (disch:=first|with_reducible assumption|omega) [go_sem,ZR mh,ZR ms,ZR mn,ZV ms];have hset0:(M1.flatMap slC).set (k*8+6) (.int .i64 4)=(M1.set k (Vl s i)).flatMap slC:=Yx Yo Yb M1 (m:=6) kl1 (by decide) (by rw[gs,Vl,if_pos co];rfl);have hsum1:(M1.map fun a=>(slC a).length).sum=n*8:=by rw[← List.length_flatMap,Z0 Yo,ml1]
   have hk8:=Y5 (w:=8) c1 (show 6<8 by decide);refine⟨by omega,k+1,h2,⟨by omega,Zxl i2 (by rw[hxs];exact List.length_filter_le _ _),i3.trans le2,hbl2,hbh2,hbs2,hbn2⟩,by omega,by simp [Ent,List.lookup],?_⟩;rw[hset0,hst1];exact Za.refl _ _
  ·have co:Zmx s i=false:=decide_eq_false c2;rw[co,if_neg (by decide)]at hxs;refine xx ?_;refine⟨k+1,h1,⟨by omega,by rw[hxs];exact i2,i3,i4,i5,i6,i7⟩,by omega,by simp [Ent,List.lookup],?_⟩;rw[hsm1 (by unfold Vl;rw[co];simp only[Bool.false_eq_true,if_false];rw[← hf.2.2.1]),hxs];exact Za.refl _ _
 obtain rfl:n=k:=by omega
 clear c1 i1;have hsub:=G2 s n;rw[show VF (Vl s) (Y6 s) (cI s) n=(cI s).map (Vl s) by rw[hn,US]];simp -dsimp -implicitDefEqProofs (disch:=first|with_reducible assumption|omega) [go_sem,ZR mh,ZR ms,ZR mn];refine Zc.ap (Zdu o i2 (Nat.le_trans hsub.length_le (by omega)) s.par.churn (by omega) (fun z hz=>by have:=H.xb z (hsub.mem hz);omega) fun h2 r2 le2 il ap=>?_);have ap2:=Ap.oent ap.2;simp only[Ap]at ap2;obtain⟨hbh2,hbs2,hbn2,_⟩:=ap2;clear ap;have hexl:(exK s n).take s.par.churn.toNat=Ji s:=by rw[Ji,hn,Yia]
 rw[hexl]at il;obtain⟨la,lc,rfl,_⟩:=il.open;simp -dsimp -implicitDefEqProofs (disch:=first|with_reducible assumption|omega) [go_sem,ZR mh,ZR ms,ZR mn];refine YO (γ:=Nat) 0 (fun k=>k≤n) (fun k=>[(70,.int .i64 k),(69,.int .i64 n),(6,.slice la (Ji s).length lc),(0,.pointer (some ⟨bh,0,none⟩))])
  (fun k=>shB bh s ⟨.slice pa s.purses.length pc,.slice ma s.members.length mc,.slice ea s.entry.length ec,.slice xa s.exit.length xc,.slice oa s.pool.length oc,.slice da s.dues.length dc,.slice ta s.motions.length tc,.slice ka s.marks.length kc,.slice ra s.ring.length rc⟩ (Ym s) (Y7 s) (.slice (some ⟨bs,0,none⟩) n cs) (.slice (some ⟨bn,0,none⟩) n cn)::slB bs cs (VF (Yk s) (Vl s) (cI s) k)::nwB bn cn ((cI s).map (YI s))::L) (fun _=>h2) (fun k=>n-k) ?_ ?_ ?_ ?_
 ·exact Nat.zero_le _
 ·simp [Ent,List.lookup]
 ·rw[Zcu];exact(Za.tail _ _ _).trans (Za.oent _ _ _ _ _ _)
 intro k i1;simp only[shB,stC,slB,nwB,List.cons_append,List.nil_append]at i1 ⊢;by_cases c1:k<n
 ·have c1':k<(cI s).length:=by omega
  obtain⟨i,hi⟩:∃i,i=(cI s)[k]:=⟨_,rfl⟩
  have hil:i<s.members.length:=by rw[hi];exact Zsw c1'
  have gs:gr Yb (VF (Yk s) (Vl s) (cI s) k) k=Vl s i:=by rw[Jj Yb c1',hi]
  have gn:gr ZQ ((cI s).map (YI s)) k=YI s i:=by rw[Zng ZQ _ c1',hi]
  have kl1:k<(VF (Yk s) (Vl s) (cI s) k).length:=by rw[Y8];exact c1'
  have kl2:k<((cI s).map (YI s)).length:=by simpa using c1'
  have hst1:=Uj (f:=Yk s) (g:=Vl s) c1';have hsm1:=VR (f:=Yk s) (g:=Vl s) c1';have ml1:(VF (Yk s) (Vl s) (cI s) k).length=n:=by rw[Y8,hn]
  rw[← hi]at hst1 hsm1;have hf:=Zto s i
  generalize VF (Yk s) (Vl s) (cI s) k=M1 at *
  have g0:∀(K:Value→Prop) (t:Zk K),Wz (M1.flatMap slC) (k*8) K t=K (.int .i64 i):=fun K t=>Z1 Yo Yb _ (m:=0) kl1 (by decide) (by rw[gs,← hf.1];rfl) K t;have g6:∀(K:Value→Prop) (t:Zk K),Wz (M1.flatMap slC) (k*8+6) K t=K (.int .i64 (if Zmx s i then 4 else 0)):=fun K t=>Z1 Yo Yb _ (m:=6) kl1 (by decide) (by rw[gs];rfl) K t;have w0:∀(K:Value→Prop) (t:Zk K),Wz (((cI s).map (YI s)).flatMap sdC) (k*4) K t=K (.int .u64 (YI s i).bal):=fun K t=>Z1 YQ ZQ _ (m:=0) kl2 (by decide) (by rw[gn];rfl) K t;have hsum1:(M1.map fun a=>(slC a).length).sum=n*8:=by rw[← List.length_flatMap,Z0 Yo,ml1]
  have hk8:=Y5 (w:=8) c1 (show 7<8 by decide);simp -dsimp -implicitDefEqProofs (disch:=first|with_reducible assumption|omega) [go_sem,g0];refine Gr _ i il (by omega) ?_;by_cases c2:(i:Int)∈Ji s
  ·rw[decide_eq_true c2];have ee:WX s i=5:=by rw[WX,if_pos c2]
   obtain⟨a1,ha1⟩:∃a1:Zq,a1={ Vl s i with ends:=5 }:=⟨_,rfl⟩
   have ha2:Yk s i={ Vl s i with ends:=5,paid:=(YI s i).bal }:=by rw[Yk,ee,if_pos (by decide)];rfl
   have hset0:(M1.flatMap slC).set (k*8+6) (.int .i64 5)=(M1.set k a1).flatMap slC:=Yx Yo Yb M1 (m:=6) kl1 (by decide) (by rw[gs,ha1];rfl);have kl1':k<(M1.set k a1).length:=by rw[List.length_set];exact kl1
   have gs':gr Yb (M1.set k a1) k=a1:=by rw[Z8 kl1',List.getElem_set_self]
   have g6':∀(K:Value→Prop) (t:Zk K),Wz ((M1.set k a1).flatMap slC) (k*8+6) K t=K (.int .i64 5):=fun K t=>Z1 Yo Yb _ (m:=6) kl1' (by decide) (by rw[gs',ha1];rfl) K t;have hset1:((M1.set k a1).flatMap slC).set (k*8+7) (.int .u64 (YI s i).bal)=(M1.set k (Yk s i)).flatMap slC:=by
    rw[Yx Yo Yb (M1.set k a1) (m:=7) kl1' (by decide) (a':=Yk s i) (by rw[gs',ha1,ha2];rfl),List.set_set]
   have hsum1':((M1.map fun a=>(slC a).length).set k (slC a1).length).sum=n*8:=by
    have:((M1.set k a1).map fun a=>(slC a).length).sum=n*8:=by rw[← List.length_flatMap,Z0 Yo,List.length_set,ml1]
    rwa [List.map_set]at this
   refine xx ?_;refine⟨by omega,?_⟩;rw[hset0];simp -dsimp -implicitDefEqProofs (disch:=first|with_reducible assumption|omega) [go_sem,g6',w0];refine⟨by omega,k+1,by omega,by omega,by simp [Ent,List.lookup],?_⟩;rw[hset1,hst1];exact Za.refl _ _
  ·rw[decide_eq_false c2];by_cases c3:Zmx s i=true
   ·rw[c3,if_pos rfl]at g6;have ee:WX s i=4:=by rw[WX,if_neg c2,if_pos c3]
    have ha2:Yk s i={ Vl s i with paid:=(YI s i).bal }:=by rw[Yk,ee,if_pos (by decide),Vl,if_pos c3]
    have hset1:(M1.flatMap slC).set (k*8+7) (.int .u64 (YI s i).bal)=(M1.set k (Yk s i)).flatMap slC:=Yx Yo Yb M1 (m:=7) kl1 (by decide) (by rw[gs,ha2];rfl);simp -dsimp -implicitDefEqProofs (disch:=first|with_reducible assumption|omega) [go_sem,g6,w0];refine⟨by omega,k+1,by omega,by omega,by simp [Ent,List.lookup],?_⟩;rw[hset1,hst1];exact Za.refl _ _
   ·rw[if_neg c3]at g6;have ee:WX s i=0:=by rw[WX,if_neg c2,if_neg c3]
    simp -dsimp -implicitDefEqProofs (disch:=first|with_reducible assumption|omega) [go_sem,g6];refine⟨k+1,by omega,by omega,by simp [Ent,List.lookup],?_⟩;rw[hsm1 (by rw[Yk,ee,Vl,if_neg c3,if_neg (by decide),← hf.2.2.2])];exact Za.refl _ _
 ·obtain rfl:n=k:=by omega
  rw[hn]at hk ⊢;rw[US];refine xx ?_;exact ZO (hk h2 (i3.trans le2))
open Go.RowKit Go.Bl
theorem Za.sub {L L0:Own}{h:PH}(hs:L0.Sublist L):Za L h L0 h:=fun W hg =>
 ⟨⟨hg.sub,fun e he=>hg.own e (hs.subset he),hg.nodup.sublist (hs.map _),fun e he=>hg.apart e (hs.subset he)⟩,fun e he=>List.mem_map_of_mem (hs.subset he)⟩
theorem Ztb {b:Nat}{L0 L:Own}(hs:L0.Sublist L):ZT b L→ZT b L0:=by
 induction hs with
 | slnil=>exact id
 | cons a _ ih=>exact fun h=>ih h.2
 | cons_cons a _ ih=>exact fun h=>⟨h.1,ih h.2⟩
theorem Yfr {o:Option (Nat×Nat)}{L0 L:Own}{h:PH}(hs:L0.Sublist L)(ha:apO o L h):apO o L0 h:=by
 cases o with
 | none=>trivial
 | some p=>exact⟨Ztb hs ha.1,ha.2⟩
theorem Zpk {xs:List Int}{bl:Nat}(o:Option (Nat×Nat))(ho:okO o xs.length)(hl:xs.length≤1000)
  (hk:∀o',okO o' xs.length→apO o' L h→K (ovs o' xs.length) (oent 3 1 o' (xs.map (.int .i64)) L) h) :
  Zc prog 312 [.pointer (some ⟨bl,0,none⟩)] (lnB bl o xs.length::lnL o xs L) h K:=by
 obtain⟨a,c,ea,hac⟩:=Z9 ho;refine Z3 func312 rfl (rs:=[_]) rfl rfl ZW (by kernel_rfl) rfl rfl fun ap nd=>?_;have hb:h bl=noC:=ap.1;clear ap nd;refine xx ?_;have hsrc:Src (lnB bl o xs.length::lnL o xs L) h (ovs o xs.length) xs.length (xs.map (.int .i64)):=by
  cases o with
  | none =>
   have h0:xs.length=0:=ho;rw[List.length_eq_zero_iff.1 h0];exact Or.inl ⟨rfl,rfl,rfl⟩
  | some p=>exact Src.own (b:=p.1) (t:=3) (cap:=p.2*1) (by simp [lnL,oent])
 refine Z4 (t:=27) (e:=3) (sz:=1) (bytes:=8) (z:=[.int .i64 0]) (by kernel_rfl) Zds rfl rfl rfl rfl (by decide) [] _ none 0 [] rfl rfl hsrc (m:=xs.length) (by simp) (fun u hu=>?_) (by simp [maxLen];omega) (by omega) ?_
 ·obtain⟨w,_,rfl⟩:=List.mem_map.1 hu
  rfl
 intro o1 j1 j2 j3;simp only[List.nil_append,Nat.zero_add]at j1 j2 ⊢;obtain⟨x1,y1,e1,_⟩:=Z9 j1;rw[e1];refine xx ?_;have k1:=hk o1 j1 (Y9 (ZY j2));rw[e1]at k1;refine⟨_,h,Za.sub ?_,k1⟩;rw[Y0 o1 _ L,Y0 o1 _ (lnB bl o xs.length::lnL o xs L)];refine List.Sublist.append (List.Sublist.refl _) (List.Sublist.cons _ ?_);rw[lnL,Y0 o];exact List.sublist_append_right _ _
theorem Zce {xs:List Int}(v:Value)(hv:Ints h .i64 v xs)(hl:xs.length≤256)(h0:∀z∈xs,0≤z)(hn:xs.Nodup)(m:Int)(hm:0≤m∧m≤9223372036854775807)
  (hk:∀h' r o',PH.le h h'→Ints h' .i64 r (xs.take m.toNat)→okO o' (xs.drop m.toNat).length→apO o' L h'→K (.tuple #[r,ovs o' (xs.drop m.toNat).length]) (oent 3 1 o' ((xs.drop m.toNat).map (.int .i64)) L) h') :
  Zc prog 214 [v,.int .i64 m] L h K:=by
 have hr:=hv.2;have hv0:=hv;obtain⟨va,vc,rfl,hcap,hln,_,hcs⟩:=hv.open;refine ZS func214 rfl (rs:=[_,_]) rfl rfl ZW (by kernel_rfl) rfl rfl ?_;refine xx ?_;refine Zdf _ hv0 hl h0 hn fun bl o nb hb ho=>?_;refine xx ?_;refine Zdu o ho (by omega) m hm hr fun h1 r le1 it=>?_;have hdl:(xs.drop m.toNat).length≤xs.length:=by rw[List.length_drop];omega
 obtain⟨ys,hys⟩:∃ys,ys=xs.drop m.toNat:=⟨_,rfl⟩
 rw[← hys]at hk hdl ⊢;refine xx ?_;refine Zpk (xs:=ys) o (Zxl ho hdl) (by omega) fun o' k1 k2=>?_;refine xx ?_;exact ZO (hk h1 r o' le1 it k1 k2)
theorem Zjy {s:Zd}(v:SV)(hs0:Zr h v s)(H:SlH s)(bh:Nat)(sa na:Option Addr)(sc nc:Nat)
  (hk:∀h',PH.le h h'→K (.tuple #[]) (shB bh s v (Ym s) (Y7 s) (.slice sa 0 sc) (.slice na 0 nc)::L) h') :
  Zc prog 80 [.pointer (some ⟨bh,0,none⟩)] (shB bh s v (Ym s) (Y7 s) (.slice sa 0 sc) (.slice na 0 nc)::L) h K:=by
 have hs:=hs0;obtain⟨pa,pc,ma,mc,ea,ec,xa,xc,oa,oc,da,dc,ta,tc,ka,kc,ra,rc,rfl⟩:=hs.slices;have hgm:=H.gm;have hmo:=H.most;have hac:=Yew H;simp only[shB,stC,List.cons_append,List.nil_append]at hk ⊢;refine Z3 func80 rfl (rs:=[]) rfl rfl ZW (by kernel_rfl) rfl rfl fun ap nd=>?_;have hbh:h bh=noC:=ap.1;clear ap nd;refine xx ?_;refine WP (γ:=Unit) () (fun _=>True) (fun _=>[(16,.int .i64 0),(15,.int .i64 0),(2,.slice none 0 0),(0,.pointer (some ⟨bh,0,none⟩))]) (fun _=>0) trivial (by simp [Ent,List.lookup,Wo]) ?_;intro _ _;refine xx ?_;refine Yn (.tk 0 (.tk 1 (.tk 2 (.tk 3 (.tk 5 (.tk 6 (.tk 7 (.tk 9 (.tk 10 (.tk 11 (.tk 12 (.tk 14 (.tk 15 (.tk 16 (.tk 17 (.tk 20 (.tk 21 (.tk 22 (.tk 23 (.tk 25 (.tk 26 (.tk 27 (.tkl 4 (.tkl 8 (.tkl 13 (.tkl 18 (.tk 19 (.tkl 24 (.tkl 28 (.o1 29 (.tk 30 (.fin)) (.nil))))))))))))))))))))))))))))))) (by kernel_rfl) (by kernel_rfl) _ (Za.refl _ _) ?_;refine xx ?_;refine Zc.ap (GK s.par H.ok H.r (Y7 s) (s.gen+s.mint) s.most (Ym s) (by omega) (by omega) (by omega) fun h1 le1 ap=>?_);have hbh1:h1 bh=noC:=ap.1;clear ap;rw[show JO s.par (Y7 s) (s.gen+s.mint) s.most (Ym s)=Jl s from rfl];refine xkp (Za.forget le1) ?_;have hmb:=Zeu H;refine xx ?_;refine Zc.ap (Gf (l:=[]) s.par H.ok H.r _ (Zh.nil YQ h1) (fun x hx=>by cases hx) (by decide) (Jl s) hmb fun h3 r3 le3 i4 ap=>?_);have hbh3:h3 bh=noC:=ap.1;clear ap;obtain⟨pa0,pc0,rfl,_⟩:=i4.open;refine xx ?_;refine WP (γ:=Unit) () (fun _=>True) (fun _=>[(83,.int .i64 0),(82,.int .i64 0)]) (fun _=>0) trivial (by simp [Ent,List.lookup]) ?_;intro _ _;refine xx ?_;exact ZO (hk h3 (le1.trans le3))
theorem Zqd {s:Zd}(v:SV)(hs0:Zr h v s)(bh:Nat)(sa na:Option Addr)(sc nc:Nat)
  (hk:K (.tuple #[]) (shB bh s v (Ym s) (Y7 s) (.slice sa 0 sc) (.slice na 0 nc)::L) h) :
  Zc prog 81 [.pointer (some ⟨bh,0,none⟩)] (shB bh s v (Ym s) (Y7 s) (.slice sa 0 sc) (.slice na 0 nc)::L) h K:=by
 have hs:=hs0;obtain⟨pa,pc,ma,mc,ea,ec,xa,xc,oa,oc,da,dc,ta,tc,ka,kc,ra,rc,rfl⟩:=hs.slices;simp only[shB,stC,List.cons_append,List.nil_append]at hk ⊢;refine Z3 func81 rfl (rs:=[]) rfl rfl ZW (by kernel_rfl) rfl rfl fun ap nd=>?_;have hbh:h bh=noC:=ap.1;clear ap nd;refine xx ?_;refine WP (γ:=Unit) () (fun _=>True) (fun _=>[(12,.int .i64 0),(11,.int .i64 0)]) (fun _=>0) trivial (by simp [Ent,List.lookup,Wo]) ?_;intro _ _;refine xx ?_;exact ZO hk
theorem Zub {s:Zd}(v:SV)(hs0:Zr h v s)(H:SlH s)(bh:Nat)(sa na:Option Addr)(sc nc:Nat)
  (hk:∀h',PH.le h h'→K (.tuple #[]) (shB bh s v (Ym s) (Y7 s) (.slice sa 0 sc) (.slice na 0 nc)::L) h') :
  Zc prog 82 [.pointer (some ⟨bh,0,none⟩)] (shB bh s v (Ym s) (Y7 s) (.slice sa 0 sc) (.slice na 0 nc)::L) h K:=by
 have hs:=hs0;obtain⟨pa,pc,ma,mc,ea,ec,xa,xc,oa,oc,da,dc,ta,tc,ka,kc,ra,rc,rfl⟩:=hs.slices;have hxv:=hs0.x;have hxl:=H.xl;have hch:=Z7 H.r;simp only[shB,stC,List.cons_append,List.nil_append]at hk ⊢;refine Z3 func82 rfl (rs:=[]) rfl rfl ZW (by kernel_rfl) rfl rfl fun ap nd=>?_;have hbh:h bh=noC:=ap.1;clear ap nd;refine xx ?_;refine Zc.apn (Zdf _ hxv (by omega) (fun z hz=>(H.xb z hz).1) H.xn fun bl o _ _ ho ap nd=>?_);have nl:=Ya nd.1;simp only[ZT]at nl;have nlh:bh≠bl:=nl.1;have no:=Znj nd.2;have mh:apB o bh:=no _ List.mem_cons_self;clear ap nd nl no;simp -dsimp -implicitDefEqProofs (disch:=first|with_reducible assumption|omega) [go_sem,ZR mh];refine WP (γ:=Unit) () (fun _=>True) (fun _=>[(23,.int .i64 0),(22,.int .i64 0),(2,.pointer (some ⟨bl,0,none⟩)),(0,.pointer (some ⟨bh,0,none⟩))]) (fun _=>0) trivial (by simp [Ent,List.lookup,Wo]) ?_;intro _ _;simp -dsimp -implicitDefEqProofs (disch:=first|with_reducible assumption|omega) [go_sem,ZR mh];refine Zc.ap (Zdu o ho (by omega) s.par.churn (by omega) (fun z hz=>by have:=H.xb z hz;omega) fun h2 r2 le2 il ap=>?_);have ap2:=Ap.oent ap.2;simp only[Ap]at ap2;obtain⟨hbh2,_⟩:=ap2;clear ap;obtain⟨la,lc,rfl,_⟩:=il.open;simp -dsimp -implicitDefEqProofs (disch:=first|with_reducible assumption|omega) [go_sem,ZR mh];refine WP (γ:=Unit) () (fun _=>True) (fun _=>[(70,.int .i64 0),(69,.int .i64 0)]) (fun _=>0) trivial (by simp [Ent,List.lookup]) ?_;intro _ _;refine xx ?_;exact ZP (Ww (ZO (hk h2 le2)))
theorem Zpw {α:Type}{f:α→List Value}{w:Nat}(hw:∀a,(f a).length=w){o:Option (Nat×Nat)}(ho:okO o 0)(h:PH):Zh f w h (ovs o 0) []:=by
 cases o with
 | none=>exact Zh.nil hw h
 | some p=>exact⟨hw,⟨by simp,_,p.2,rfl,ho.1,ho.2,Nat.zero_le _,(fun e=>by cases e),fun j c hj=>by simp at hj⟩⟩
theorem Zgs {s:Zd}(v:SV)(hs0:Zr h v s)(few:ZB s)(fk:s.marks.length≤1000)
  (hk:∀h' r,PH.le h h'→Zh slC 8 h' r (YJ s)→K (.tuple #[r,.int .i64 (Us s)]) L h'):Zc prog 24 [stV s v] L h K:=by
 have hs:=hs0;obtain⟨pa,pc,ma,mc,ea,ec,xa,xc,oa,oc,da,dc,ta,tc,ka,kc,ra,rc,rfl⟩:=hs.slices;have nilr:∀e,Us s=e→e≠0→K (.tuple #[.slice none 0 0,.int .i64 e]) L h:=fun e he hne=>by
  have:=hk h (.slice none 0 0) (PH.le_refl h) (by rw[YJ,if_neg (by rw[he];exact hne)];exact Zh.nil Yo h)
  rwa [he]at this
 refine ZS func24 rfl (rs:=[_,_]) rfl rfl ZW (by kernel_rfl) rfl rfl ?_;refine xx ?_;refine Z2 fun b1 nb1 zb1=>?_;(try simp only[ZT]at nb1);refine xx ?_;refine JV (s:=s) ⟨.slice pa s.purses.length pc,.slice ma s.members.length mc,.slice ea s.entry.length ec,.slice xa s.exit.length xc,.slice oa s.pool.length oc,.slice da s.dues.length dc,.slice ta s.motions.length tc,.slice ka s.marks.length kc,.slice ra s.ring.length rc⟩ hs0 few ?_
 cases hf:WK s with
 | false =>
  have:=nilr 291 (by rw[Us,hf];rfl) (by decide);refine xx ?_;exact ZP (ZO this)
 | true =>
 by_cases c1:1073741824≤s.ep
 ·have:=nilr 200 (by rw[Us,hf,if_pos rfl,if_pos c1]) (by decide);refine xx ?_;exact ZP (ZO this)
 have he:Us s=0:=by rw[Us,hf,if_pos rfl,if_neg c1]
 have hls:YJ s=(cI s).map (Yk s):=by rw[YJ,if_pos he]
 rw[he,hls]at hk;have H:=Yow hs0 hf;refine xx ?_;refine Z2 fun b2 nb2 zb2=>?_;(try simp only[ZT]at nb2);refine xx ?_;refine Zpf (s:=s) ⟨.slice pa s.purses.length pc,.slice ma s.members.length mc,.slice ea s.entry.length ec,.slice xa s.exit.length xc,.slice oa s.pool.length oc,.slice da s.dues.length dc,.slice ta s.motions.length tc,.slice ka s.marks.length kc,.slice ra s.ring.length rc⟩ hs0 H fk b2 fun h1 o1 o2 le1 k1 k2=>?_;have hs1:=hs0.up le1;obtain⟨n,hn⟩:∃n,n=(cI s).length:=⟨_,rfl⟩
 by_cases c2:n=0
 ·obtain⟨x1,y1,e1,_⟩:=Z9 k1;obtain⟨x2,y2,e2,_⟩:=Z9 k2;have hnil:cI s=[]:=List.eq_nil_of_length_eq_zero (by omega);rw[e1,e2,← hn,c2];refine xx ?_;have d0:∀(A:Zm) (P Q:List Value) (M:Own),Za (A::oent 69 8 o1 P (oent 72 4 o2 Q M)) h1 (A::M) h1:=fun A P Q M =>
   (Za.perm h1 (oent_perm.trans (Z5 _ _ oent_perm))).trans ((Za.oent _ _ _ _ _ _).trans (Za.oent _ _ _ _ _ _))
  refine Zc.weaken (d0 _ _ _ _) ?_;refine Zjy (s:=s) ⟨.slice pa s.purses.length pc,.slice ma s.members.length mc,.slice ea s.entry.length ec,.slice xa s.exit.length xc,.slice oa s.pool.length oc,.slice da s.dues.length dc,.slice ta s.motions.length tc,.slice ka s.marks.length kc,.slice ra s.ring.length rc⟩ hs1 H b2 x1 x2 y1 y2 fun h2 le2=>?_;have hs2:=hs1.up le2;refine xx ?_;refine Zqd (s:=s) ⟨.slice pa s.purses.length pc,.slice ma s.members.length mc,.slice ea s.entry.length ec,.slice xa s.exit.length xc,.slice oa s.pool.length oc,.slice da s.dues.length dc,.slice ta s.motions.length tc,.slice ka s.marks.length kc,.slice ra s.ring.length rc⟩ hs2 b2 x1 x2 y1 y2 ?_;refine xx ?_;refine Zc.ap (Zub (s:=s) ⟨.slice pa s.purses.length pc,.slice ma s.members.length mc,.slice ea s.entry.length ec,.slice xa s.exit.length xc,.slice oa s.pool.length oc,.slice da s.dues.length dc,.slice ta s.motions.length tc,.slice ka s.marks.length kc,.slice ra s.ring.length rc⟩ hs2 H b2 x1 x2 y1 y2 fun h3 le3 ap=>?_);have hb23:h3 b2=noC:=ap.1;clear ap;simp only[shB,stC,List.cons_append,List.nil_append];refine xx ?_;have kk:okO o1 0:=by rw[hn.symm.trans c2]at k1;exact k1
  have rr:=Zpw Yo kk h3;rw[show ovs o1 0 = .slice x1 0 y1 by have:=e1;rw[← hn,c2]at this;exact this]at rr;have:=hk h3 _ (le1.trans (le2.trans le3)) (by rw[hnil];exact rr);exact ZP (ZP (ZO this))
 ·obtain⟨bs,cs,rfl⟩:∃bs cs,o1=some (bs,cs):=by
   cases o1 with
   | none=>have:(cI s).length=0:=k1;omega
   | some p=>exact⟨p.1,p.2,rfl⟩
  obtain⟨bn,cn,rfl⟩:∃bn cn,o2=some (bn,cn):=by
   cases o2 with
   | none=>have:(cI s).length=0:=k2;omega
   | some p=>exact⟨p.1,p.2,rfl⟩
  have hcs:(cI s).length≤cs:=k1.1;have hcn:(cI s).length≤cn:=k2.1;simp only[YE,Ye];refine xx ?_;refine Zkc (s:=s) ⟨.slice pa s.purses.length pc,.slice ma s.members.length mc,.slice ea s.entry.length ec,.slice xa s.exit.length xc,.slice oa s.pool.length oc,.slice da s.dues.length dc,.slice ta s.motions.length tc,.slice ka s.marks.length kc,.slice ra s.ring.length rc⟩ hs1 H b2 bs cs bn cn hcs hcn fun h2 le2=>?_;have hs2:=hs1.up le2;refine xx ?_;refine Zns (s:=s) ⟨.slice pa s.purses.length pc,.slice ma s.members.length mc,.slice ea s.entry.length ec,.slice xa s.exit.length xc,.slice oa s.pool.length oc,.slice da s.dues.length dc,.slice ta s.motions.length tc,.slice ka s.marks.length kc,.slice ra s.ring.length rc⟩ hs2 H b2 bs cs bn cn hcs hcn ?_;refine xx ?_;refine Zc.ap (Zxn (s:=s) ⟨.slice pa s.purses.length pc,.slice ma s.members.length mc,.slice ea s.entry.length ec,.slice xa s.exit.length xc,.slice oa s.pool.length oc,.slice da s.dues.length dc,.slice ta s.motions.length tc,.slice ka s.marks.length kc,.slice ra s.ring.length rc⟩ hs2 H b2 bs cs bn cn hcs hcn fun h3 le3 ap=>?_);have hb23:h3 b2=noC:=ap.1;have hbs3:h3 bs=noC:=ap.2.1;clear ap;simp only[shB,stC,slB,nwB,List.cons_append,List.nil_append];refine xx ?_;refine ZP ?_;have hml:((cI s).map (Yk s)).length=(cI s).length:=List.length_map _
  have:=Wh (K:=K) (v:=.tuple #[.slice (some ⟨bs,0,none⟩) (cI s).length cs,.int .i64 0]) (e:=69) (sz:=8) (n:=(cI s).length) (o:=some (bs,cs)) (xs:=((cI s).map (Yk s)).flatMap slC) (L:=nwB bn cn ((cI s).map (YI s))::⟨b1,34,stC s ⟨.slice pa s.purses.length pc,.slice ma s.members.length mc,.slice ea s.entry.length ec,.slice xa s.exit.length xc,.slice oa s.pool.length oc,.slice da s.dues.length dc,.slice ta s.motions.length tc,.slice ka s.marks.length kc,.slice ra s.ring.length rc⟩,41⟩::L) (L0:=[]) (h:=h3) k1 (by rw[Z0 Yo,hml]) (by have:=H.len;have:=VW s.members s.members.length;show (cP s.members s.members.length).length≤_;omega) ⟨trivial,hbs3⟩ fun h4 le4 sl=>ZP (ZP (ZO (hk h4 _ (le1.trans (le2.trans (le3.trans le4))) ⟨Yo,by rw[hml];exact sl⟩)));exact this
theorem Zut {e1 sz1 n1 e2 sz2 n2:Nat}{o1 o2:Option (Nat×Nat)}{xs1 xs2:List Value}{L:Own}{h:PH}{K:PK}{v:Value}(ok1:okO o1 n1)(hl1:xs1.length=n1*sz1)(hn1:n1≤9223372036854775807)(ok2:okO o2 n2)(hl2:xs2.length=n2*sz2)(hn2:n2≤9223372036854775807)
  (ha1:apO o1 (oent e2 sz2 o2 xs2 L) h) (ha2:apO o2 L h)
  (hk:∀h',PH.le h h'→Sl h' (ovs o1 n1) n1 sz1 xs1→Sl h' (ovs o2 n2) n2 sz2 xs2→fin K v L h') (he1:e1≠4294967295:=by first|decide|omega) (he2:e2≠4294967295:=by first|decide|omega):fin K v (oent e1 sz1 o1 xs1 (oent e2 sz2 o2 xs2 L)) h:=by
 have a1:apO o1 [] h:=by
  cases o1 with
  | none=>trivial
  | some p=>exact⟨trivial,ha1.2⟩
 have a2:apO o2 [] (Gn h o1 xs1):=by
  cases o2 with
  | none=>trivial
  | some q =>
   cases o1 with
   | none=>exact⟨trivial,ha2.2⟩
   | some p=>exact⟨trivial,GC (o:=some p) (Ne.symm ha1.1.1) ha2.2⟩
 have le1:=Wm a1 xs1;have le2:=Wm a2 xs2;obtain⟨L',h',hd,hk⟩:=hk _ (le1.trans le2) ((Vy ok1 hl1 hn1).up le2) (Vy ok2 hl2 hn2);exact⟨L',h',((Wk o1 xs1 _ h he1).trans (Wk o2 xs2 L _ he2)).trans hd,hk⟩
def Ja (e:Int)(b:Bool)(d:Zg):Bool:=decide (d.at'≤e) == b
def Jf (l:List Zg)(e:Int)(b:Bool)(k:Nat):List Zg:=(l.take k).filter (Ja e b)
theorem Zkw (l:List Zg)(e:Int)(b:Bool)(k:Nat):(Jf l e b k).length≤l.length:=by
 unfold Jf;exact Nat.le_trans (List.length_filter_le _ _) (by rw[List.length_take];omega)
theorem Zfe {l:List Zg}{e:Int}{b:Bool}{k:Nat}(hk:k<l.length):Jf l e b (k+1)=Jf l e b k++(if Ja e b (gr ZZ l k) then [gr ZZ l k] else []):=by
 unfold Jf;rw[List.take_add_one,List.getElem?_eq_getElem hk,Z8 hk,List.filter_append]
 congr 1
 simp only[Option.toList,List.filter]
 cases Ja e b l[k]<;>rfl
theorem Jw (l:List Zg)(e:Int)(b:Bool)(k:Nat):((Jf l e b k).flatMap Yz).length=(Jf l e b k).length*3:=Z0 Yr _
theorem Zui {l:List Zg}(v:Value)(hv:Zh Yz 3 h v l)(hl:l.length≤34000)(e:Int)
  (hk:∀h' r1 r2,PH.le h h'→Zh Yz 3 h' r1 (l.filter (Ja e true))→Zh Yz 3 h' r2 (l.filter (Ja e false))→K (.tuple #[r1,r2]) L h'):Zc prog 216 [v,.int .i64 e] L h K:=by
 obtain⟨a,c,rfl,hcap,hln,_,hcs⟩:=hv.open;refine ZS func216 rfl (rs:=[_,_]) rfl rfl ZW (by kernel_rfl) rfl rfl ?_;refine xx ?_;refine YO (γ:=Nat×Option (Nat×Nat)×Option (Nat×Nat)) (0,none,none) (fun q=>q.1≤l.length∧okO q.2.1 (Jf l e true q.1).length∧okO q.2.2 (Jf l e false q.1).length∧apO q.2.1 (oent 167 3 q.2.2 ((Jf l e false q.1).flatMap Yz) L) h∧apO q.2.2 L h)
  (fun q=>[(10,.int .i64 q.1),(9,.int .i64 l.length),(8,.slice a l.length c),(1,.int .i64 e),(4,ovs q.2.1 (Jf l e true q.1).length),(5,ovs q.2.2 (Jf l e false q.1).length)])
  (fun q=>oent 167 3 q.2.1 ((Jf l e true q.1).flatMap Yz) (oent 167 3 q.2.2 ((Jf l e false q.1).flatMap Yz) L)) (fun _=>h) (fun q=>l.length-q.1) ?_ ?_ ?_ ?_
 ·exact⟨Nat.zero_le _,by show (Jf l e true 0).length=0;simp [Jf],by show (Jf l e false 0).length=0;simp [Jf],trivial,trivial⟩
 ·simp [Ent,List.lookup,Wo,ovs,Jf]
 ·exact Za.refl _ _
 rintro⟨k,o1,o2⟩ ⟨i1,i2,i3,i4,i5⟩;simp only at i1 i2 i3 i4 i5 ⊢;have tl:=Zkw l e true k;have dl:=Zkw l e false k;by_cases c1:k<l.length
 ·have ht:=Zfe (e:=e) (b:=true) c1;have hf:=Zfe (e:=e) (b:=false) c1;simp -dsimp -implicitDefEqProofs (disch:=first|with_reducible assumption|omega) [go_sem,↓Uw ZZ (by decide) hcs,Yz];refine Z2 fun b7 nb7 zb7=>?_;(try simp only[ZT]at nb7);have n7:=Ya (Ya nb7);simp -dsimp -implicitDefEqProofs (disch:=first|with_reducible assumption|omega) [go_sem,Yz];by_cases c2:(gr ZZ l k).at'≤e
  ·rw[if_pos (by simp [Ja,c2])]at ht;rw[if_neg (by simp [Ja,c2]),List.append_nil]at hf;have e3:(Jf l e true k).length+1=(Jf l e true (k+1)).length:=by rw[ht];simp
   simp -dsimp -implicitDefEqProofs (disch:=first|with_reducible assumption|omega) [go_sem,Yz];refine Z2 fun b1 nb1 zb1=>?_;(try simp only[ZT]at nb1);refine xx ?_;refine Z4 (t:=29) (e:=167) (sz:=3) (bytes:=24) (by kernel_rfl) Un rfl rfl rfl rfl (by decide) [_,_] _ o1 _ _ i2 (Jw l e true k) (Src.own List.mem_cons_self) (m:=1) (news:=Yz (gr ZZ l k)) rfl (by intro u hu;simp only[Yz,List.mem_cons,List.not_mem_nil,or_false]at hu;rcases hu with rfl|rfl|rfl<;>rfl) (by simp [maxLen];omega) (by omega) ?_;intro o1' j1 j2 j3;rw[e3]at j1;rw[e3,show (Jf l e true k).flatMap Yz++Yz (gr ZZ l k)=(Jf l e true (k+1)).flatMap Yz by rw[ht,List.flatMap_append];simp];refine xx ?_;exact⟨k+1,o1',o2,⟨by omega,j1,by rw[hf];exact i3,by rw[hf];exact ZY (ZY j2),i5⟩,by omega,by simp [Ent,List.lookup,hf],by rw[hf];exact(Za.tail _ _ _).trans (Za.tail _ _ _)⟩
  ·rw[if_neg (by simp [Ja,c2]),List.append_nil]at ht;rw[if_pos (by simp [Ja,c2])]at hf;have e3:(Jf l e false k).length+1=(Jf l e false (k+1)).length:=by rw[hf];simp
   simp -dsimp -implicitDefEqProofs (disch:=first|with_reducible assumption|omega) [go_sem,Yz];refine Z2 fun b1 nb1 zb1=>?_;(try simp only[ZT]at nb1);refine xx ?_;rw[Y0 (e:=167) o1];refine Z4 (t:=29) (e:=167) (sz:=3) (bytes:=24) (by kernel_rfl) Un rfl rfl rfl rfl (by decide) (_::_::oent 167 3 o1 _ []) _ o2 _ _ i3 (Jw l e false k) (Src.own List.mem_cons_self) (m:=1) (news:=Yz (gr ZZ l k)) rfl (by intro u hu;simp only[Yz,List.mem_cons,List.not_mem_nil,or_false]at hu;rcases hu with rfl|rfl|rfl<;>rfl) (by simp [maxLen];omega) (by omega) ?_;intro o2' j1 j2 j3;rw[e3]at j1;rw[e3,show (Jf l e false k).flatMap Yz++Yz (gr ZZ l k)=(Jf l e false (k+1)).flatMap Yz by rw[hf,List.flatMap_append];simp];simp only[List.cons_append];rw[← Y0 (e:=167) o1];refine xx ?_;have l5:=Zdn (e2:=167) (sz2:=3) (cs2:=(Jf l e false (k+1)).flatMap Yz) (Y9 i4) (ZY (ZY j2));exact⟨k+1,o1,o2',⟨by omega,by rw[ht];exact i2,j1,l5.1,l5.2⟩,by omega,by simp [Ent,List.lookup,ht],by rw[ht];exact(Za.tail _ _ _).trans (Za.tail _ _ _)⟩
 ·obtain rfl:l.length=k:=by omega
  have e1:Jf l e true l.length=l.filter (Ja e true):=by unfold Jf;rw[List.take_length]
  have e2:Jf l e false l.length=l.filter (Ja e false):=by unfold Jf;rw[List.take_length]
  have f1:=Jw l e true l.length;have f2:=Jw l e false l.length;rw[e1]at i2 tl f1;rw[e2]at i3 i4 dl f2;rw[e1,e2];obtain⟨x1,y1,q1,_⟩:=Z9 i2;obtain⟨x2,y2,q2,_⟩:=Z9 i3;rw[q1,q2];refine xx ?_;refine Zut (n1:=(l.filter (Ja e true)).length) (n2:=(l.filter (Ja e false)).length) i2 f1 (by omega) i3 f2 (by omega) i4 i5 fun h1 le1 s1 s2=>ZO ?_;have:=hk h1 _ _ le1 (Zh.pub Yr s1) (Zh.pub Yr s2)
  rwa [q1,q2]at this
theorem Zfx {xs:List Int}(v:Value)(hx:Ints h .u8 v xs)(hl:xs.length≤1000)(hk:∀h' r,PH.le h h'→Ints h' .u8 r xs→K r L h'):Zc prog 325 [v] L h K:=by
 have hx0:=hx;obtain⟨a,c,rfl,_⟩:=hx.open;refine ZS func325 rfl (rs:=[_]) rfl rfl ZW (by kernel_rfl) rfl rfl ?_;refine xx ?_;refine Z4 (t:=31) (e:=5) (sz:=1) (bytes:=1) (z:=[.int .u8 0]) (by kernel_rfl) Yno rfl rfl rfl rfl (by decide) [] _ none 0 [] rfl rfl (Src.known hx0.1) (by simp) (JF _ _) (by simp [maxLen];omega) (by omega) ?_;intro o k1 k2 k3;simp only[Nat.zero_add,List.nil_append]at k1 k2 ⊢;refine xx ?_;refine Wh (n:=xs.length) k1 (by simp) (by omega) k2 fun h1 le1 sl=>ZO (hk h1 _ le1 ⟨sl,hx0.2⟩)
def Zxs (ring:List (List Int))(marks:List Int):List (List Int):=marks::ring.take 7
def QsOk (h:PH)(q:List QS):Prop:=∀p∈q,Ints h .u8 p.1 p.2
theorem Yaz {l:List QS}{marks:List Int}(v u:Value)(hv:Zw h v l)(hu:Ints h .u8 u marks)(hl:l.length≤1000)(hb:∀b∈xsL l,b.length≤1000)(hm:marks.length≤1000)
  (hk:∀h' r q,PH.le h h'→Zw h' r q→xsL q=Zxs (xsL l) marks→K r L h'):Zc prog 229 [v,u] L h K:=by
 have hu0:=hu;obtain⟨a,c,rfl,hcap,hln,_,hcs,hd⟩:=hv.open;obtain⟨ua,uc,rfl,_⟩:=hu.open;refine ZS func229 rfl (rs:=[_]) rfl rfl ZW (by kernel_rfl) rfl rfl ?_;refine xx ?_;refine Zc.ap (Zfx _ hu0 hm fun h1 r1 le1 i1 ap=>?_);obtain⟨xa,xc,rfl,_⟩:=i1.open;refine xx ?_;refine Z2 fun b5 nb5 zb5=>?_;(try simp only[ZT]at nb5);refine xx ?_;refine YO (γ:=Nat×PH×Option (Nat×Nat)×List QS) (0,h1,some (b5,1),[(.slice xa marks.length xc,marks)])
  (fun q=>q.1≤l.length∧PH.le h1 q.2.1∧okO q.2.2.1 q.2.2.2.length∧apO q.2.2.1 L q.2.1∧xsL q.2.2.2=marks::(xsL l).take (min q.1 7)∧QsOk q.2.1 q.2.2.2)
  (fun q=>[(13,.int .i64 q.1),(12,.int .i64 l.length),(11,.slice a l.length c),(5,ovs q.2.2.1 q.2.2.2.length)])
  (fun q=>oent 31 1 q.2.2.1 (vsL q.2.2.2) L) (fun q=>q.2.1) (fun q=>l.length-q.1) ?_ ?_ ?_ ?_
 ·refine⟨Nat.zero_le _,PH.le_refl _,(show 1≤1∧1≤maxLen by decide),⟨nb5,zb5⟩,by simp [xsL],fun p hp=>?_⟩;rw[List.mem_singleton]at hp;subst hp;exact i1
 ·simp [Ent,List.lookup,Wo,ovs]
 ·exact Za.refl _ _
 rintro⟨k,h2,o,q⟩ ⟨k1,k2,k3,k4,k5,k6⟩;simp only at k1 k2 k3 k4 k5 k6 ⊢;have hxl:(xsL l).length=l.length:=Vk l;have hql:q.length=1+min k 7:=by
  rw[← Vk q,k5,List.length_cons,List.length_take];omega
 by_cases c1:k<l.length
 ·have hg:=(hd.at c1).up (le1.trans k2);have hcs2:∀j,j<l.length→Yd h2 a j=some (gs l j).1:=(hd.up (le1.trans k2)).open.elim fun a' ⟨cap',e,_,_,_,hc2,_⟩=>by
   cases e
   exact hc2
  have hmem:(gs l k).2∈xsL l:=by rw[Zdr c1];exact List.mem_map.2 ⟨_,List.getElem_mem c1,rfl⟩
  have hbl:=hb _ hmem;have htk:(xsL l)[k]?=some (gs l k).2:=Yny c1;obtain⟨x1,y1,e1,_⟩:=Z9 k3;have hlen:∀(K:Value→Prop) (t:Zk K),Zch prog 3 #[32] (ovs o q.length) K t=K (.int .i64 q.length):=fun K t=>by rw[e1];exact YB (e:=31) (by kernel_rfl) _ _ _
  simp -dsimp -implicitDefEqProofs (disch:=first|with_reducible assumption|omega) [go_sem,idx hcs2,hlen];by_cases c2:k<7
  ·have hm1:min k 7=k:=by omega
   have hm2:min (k+1) 7=k+1:=by omega
   rw[hm1]at k5 hql;simp -dsimp -implicitDefEqProofs (disch:=first|with_reducible assumption|omega) [go_sem,idx hcs2,hlen];refine Zc.ap (Zfx _ hg hbl fun h3 r3 le3 i3 ap=>?_);obtain⟨ya,yc,rfl,_⟩:=i3.open;have k4':=Zkx k4 ap;refine xx ?_;refine Z2 fun b6 nb6 zb6=>?_;(try simp only[ZT]at nb6);refine xx ?_;refine Z4 (t:=32) (e:=31) (sz:=1) (bytes:=24) (by kernel_rfl) Yih rfl rfl rfl rfl (by decide) [_] L o q.length (vsL q) k3 (by simp [vsL]) (Src.own List.mem_cons_self) (m:=1) (news:=[.slice ya (gs l k).2.length yc]) rfl (fun u hu=>by simp at hu;subst hu;rfl) (by simp [maxLen];omega) (by omega) ?_;intro o' j1 j2 j3;refine xx ?_;refine⟨k+1,h3,o',q++[(.slice ya (gs l k).2.length yc,(gs l k).2)],⟨by omega,k2.trans le3,by simpa using j1,ZY j2,?_,fun p hp=>?_⟩,by omega,by simp [Ent,List.lookup],?_⟩
   ·rw[hm2,List.take_add_one,htk];simp only[xsL,List.map_append,List.map_cons,List.map_nil]at k5 ⊢;rw[k5]
    rfl
   ·rcases List.mem_append.1 hp with hp|hp
    ·exact(k6 p hp).up le3
    ·rw[List.mem_singleton]at hp;subst hp;exact i3
   ·simp only[vsL,List.map_append,List.map_cons,List.map_nil];exact Za.tail _ _ _
  ·have hm1:min k 7=7:=by omega
   have hm2:min (k+1) 7=7:=by omega
   rw[hm1]at k5 hql;refine xx ?_;exact⟨k+1,h2,o,q,⟨by omega,k2,k3,k4,by rw[hm2];exact k5,k6⟩,by omega,by simp [Ent,List.lookup],Za.refl _ _⟩
 ·obtain rfl:l.length=k:=by omega
  refine xx ?_;obtain⟨x1,y1,e1,_⟩:=Z9 k3;rw[e1]
  try simp -dsimp -implicitDefEqProofs (disch:=first|with_reducible assumption|omega) [go_sem]
  refine Wh (n:=q.length) k3 (by simp [vsL]) (by omega) k4 fun h3 le3 sl=>ZO ?_;rw[e1]at sl;refine hk h3 _ q (le1.trans (k2.trans le3)) ⟨sl,fun p hp=>(k6 p hp).up le3⟩ ?_;rw[k5,Zxs]
  congr 1
  by_cases c2:l.length≤7
  ·rw[Nat.min_eq_left c2,List.take_of_length_le (by omega),List.take_of_length_le (by omega)]
  ·rw[Nat.min_eq_right (by omega)]
theorem Zne {ql:List QM}{ms:List Zn}(v:Value)(hv:Zh WE 33 h v ql)(hq:ql.map (fun x=>x.2.2)=ms)(hm:WF h ql)(hl:ql.length≤1000)(hb:∀m∈ms,m.yes.length≤1000∧m.no.length≤1000)
    (hk:∀h' o ql',PH.le h h'→okO o ms.length→apO o L h'→ql'.map (fun x=>x.2.2)=ms→WF h' ql'→K (ovs o ms.length) (oent 120 33 o (ql'.flatMap WE) L) h') :
    Zc prog 316 [v] L h K:=by
  have hql:ql.length=ms.length:=by rw[← hq,List.length_map]
  have hv0:=hv;obtain⟨va,vc,rfl,_⟩:=hv.open;refine ZS func316 rfl (rs:=[_]) rfl rfl ZW (by kernel_rfl) rfl rfl ?_;refine xx ?_;refine Zbv _ hv0 hm hl fun ot ok2 at1=>?_;rw[hql]at ok2 ⊢;obtain⟨mta,mtc,emt,_⟩:=Z9 ok2;rw[emt];refine xx ?_;refine YO (γ:=Nat×List QM×PH) (0,ql,h)
    (fun q=>q.1≤ms.length∧q.2.1.map (fun x=>x.2.2)=ms∧WF q.2.2 q.2.1∧PH.le h q.2.2∧apO ot L q.2.2)
    (fun q=>[(9,.int .i64 q.1),(8,.int .i64 ms.length),(3,.slice mta ms.length mtc)])
    (fun q=>oent 120 33 ot (q.2.1.flatMap WE) L) (fun q=>q.2.2) (fun q=>ms.length-q.1) ?_ ?_ ?_ ?_
  · exact⟨Nat.zero_le _,hq,hm,PH.le_refl _,at1⟩
  · simp [Ent,List.lookup,Wo]
  · exact Za.refl _ _
  rintro⟨k,ql',h6⟩ ⟨k1,k2,k3,k4,k8⟩;simp only at k1 k2 k3 k4 k8 ⊢;have hql':ql'.length=ms.length:=by rw[← k2,List.length_map]
  by_cases c1:k<ms.length
  · obtain ⟨bt,cap,rfl⟩ : ∃ bt cap,ot = some (bt,cap) := by
      cases ot with
      | none=>have:ms.length=0:=ok2;omega
      | some p=>exact⟨_,_,rfl⟩
    simp only[ovs,Value.slice.injEq]at emt;obtain⟨rfl,_,rfl⟩:=emt;have hbt:h6 bt=noC:=k8.2;obtain⟨qk,hqk⟩:∃qk,qk=gr Z6 ql' k:=⟨_,rfl⟩
    have hmem:qk∈ql':=by rw[hqk,Z8 (by omega)];exact List.getElem_mem _
    have hmk:Zu h6 qk:=k3 qk hmem;have hmdm:qk.2.2∈ms:=by rw[← k2];exact List.mem_map.2 ⟨qk,hmem,rfl⟩
    obtain⟨vy,vn,md⟩:=qk;have hy:=hmk.y;have hn:=hmk.n;simp only at hy hn;obtain⟨ya,yc,rfl,_⟩:=hy.open;obtain⟨na,nc,rfl,_⟩:=hn.open;simp only at hmdm;have fv:=hb md hmdm;have g31:∀(K:Value→Prop) (t:Zk K),Wz (ql'.flatMap WE) (k*33+31) K t=K (.slice ya md.yes.length yc):=fun K t=>Z1 Yh Z6 ql' (by omega) (by decide) (by rw[← hqk];rfl) K t;have g32:∀(K:Value→Prop) (t:Zk K),Wz (ql'.flatMap WE) (k*33+32) K t=K (.slice na md.no.length nc):=fun K t=>Z1 Yh Z6 ql' (by omega) (by decide) (by rw[← hqk];rfl) K t;have hfl:(ql'.flatMap WE).length=ms.length*33:=by rw[Z0 Yh,hql']
    rw[Ye];refine xx ?_;refine Yn (.tk 0 (.tk 1 (.tk 2 (.tk 3 (.tk 4 (.tk 5 (.tk 6 (.tk 7 (.tk 10 (.tk 11 (.tk 12 (.tk 13 (.tkl 8 (.tkl 14 (.o1 9 (.o1 15 (.tk 16 (.tk 17 (.o2 18 (.tk 19 (.tk 20 (.o2 21 (.fin) (.nil)))) (.nil)))) (.nil)) (.nil)))))))))))))))) (by kernel_rfl) (by kernel_rfl) _ (Za.refl _ _) ?_;simp -dsimp -implicitDefEqProofs (disch:=first|with_reducible assumption|omega) [go_sem,g31,g32];have hset:∀a ac b bc,((ql'.flatMap WE).set (k*33+31) (.slice a md.yes.length ac)).set (k*33+32) (.slice b md.no.length bc)=(ql'.set k (.slice a md.yes.length ac,.slice b md.no.length bc,md)).flatMap WE:=fun a ac b bc=>by
      rw[Yx Yh Z6 ql' (i:=k) (m:=31) (a':=(.slice a md.yes.length ac,.slice na md.no.length nc,md)) (by omega) (by decide) (by rw[← hqk];rfl)];rw[Yx Yh Z6 _ (i:=k) (m:=32) (a':=(.slice a md.yes.length ac,.slice b md.no.length bc,md)) (by rw[List.length_set];omega) (by decide) (by rw[Z8 (by rw[List.length_set];omega),List.getElem_set_self];rfl),List.set_set]
    have hmd:ms[k]?=some md:=by
      rw[← k2,List.getElem?_map,List.getElem?_eq_getElem (by omega),← Z8 (z:=Z6) (by omega),← hqk]
      rfl
    have hmap:∀(a b:Value),(ql'.set k (a,b,md)).map (fun x=>x.2.2)=ms:=fun a b=>by
      rw[List.map_set,k2];apply List.ext_getElem?;intro n;rw[List.getElem?_set];split
      · rename_i e;subst e
        first
        | exact hmd.symm
        | (split
           · exact hmd.symm
           · rw[List.getElem?_eq_none (by omega)])
      · rfl
    repeat' first
      | refine Y4 ?_ ?_
      | simp -dsimp -implicitDefEqProofs (disch:=first|with_reducible assumption|omega) [go_sem,g31,g32]
    all_goals
      refine Zc.ap (Vq _ hy (by omega) fun h7 v7 le7 i7 ap=>?_);obtain⟨y1,y2⟩:=ap;obtain⟨wa,wc,rfl,_⟩:=i7.open
      first
      | refine xkp (Za.forget le7) ?_
      | skip
    repeat' first
      | refine Y4 ?_ ?_
      | simp -dsimp -implicitDefEqProofs (disch:=first|with_reducible assumption|omega) [go_sem,g31,g32]
      | refine xkp (Za.forget le7) ?_
    all_goals
      refine Zc.ap (Vq _ (hn.up le7) (by omega) fun h8 v8 le8 i8 ap=>?_);obtain⟨z1,z2⟩:=ap;obtain⟨ua,uc,rfl,_⟩:=i8.open
      first
      | refine xkp (Za.forget (le7.trans le8)) ?_
      | skip
    repeat' first
      | refine Y4 ?_ ?_
      | simp -dsimp -implicitDefEqProofs (disch:=first|with_reducible assumption|omega) [go_sem,g31,g32]
      | refine xkp (Za.forget (le7.trans le8)) ?_
    all_goals
      have hsum:(ql'.map fun a=>(WE a).length).sum=ms.length*33:=by rw[← List.length_flatMap,hfl]
      have hk33:=Y5 (n:=ms.length) (w:=33) c1 (m:=32) (by decide);refine⟨by omega,by omega,k+1,ql'.set k (.slice wa md.yes.length wc,.slice ua md.no.length uc,md),h8,⟨by omega,hmap _ _,fun x hx=>?_,k4.trans (le7.trans le8),⟨k8.1,z1⟩⟩,by omega,by simp [Ent,List.lookup],?_⟩
      · rcases List.mem_or_eq_of_mem_set hx with hx|rfl
        · exact(k3 x hx).up (le7.trans le8)
        · exact⟨i7.up le8,i8,hmk.ok⟩
      · rw[hset];exact Za.refl _ _
  have hkl:k=ms.length:=by omega
  subst hkl;rw[← emt];refine xx ?_;exact ZO (hk h6 ot ql' k4 ok2 k8 k2 k3)
end Go.X
