/- Lemmas and contracts. Conditions: as each says. -/
import Derived.Test.YtmmfajokfdaokaaGreatQ20
set_option linter.unusedVariables false
set_option linter.unusedSimpArgs false
set_option maxHeartbeats 12800000
set_option maxRecDepth 20000
namespace Go.X
open Go.RowKit Go.Proofs Go.Bl Go.Proofs.Tryz
variable {L:Own} {h:PH} {K:PK}
theorem Yox {b t c:Nat}{cs cs':List Value}{v:Value}(e:cs=cs')(hk:fin K v (⟨b,t,cs',c⟩::L) h):fin K v (⟨b,t,cs,c⟩::L) h:=e ▸ hk
theorem Zyz {α:Type}{f:α→List Value}{w:Nat}(hf:∀a,(f a).length=w)(l:List α){i:Nat}(hi:i<l.length)(a':α):wr (l.flatMap f) (i*w) (f a')=(l.set i a').flatMap f:=by
 have h1:l.flatMap f=(l.take i).flatMap f++(f l[i]++(l.drop (i+1)).flatMap f):=by
  conv=>lhs;rw[← List.take_append_drop i l,List.drop_eq_getElem_cons hi]
  rw[List.flatMap_append,List.flatMap_cons]
 have h2:((l.take i).flatMap f).length=i*w:=by rw[Z3 hf,List.length_take,Nat.min_eq_left (by omega)]
 rw[J9 _ _ _ (by rw[h1];simp only[List.length_append,h2,hf];omega),hf];rw[List.set_eq_take_append_cons_drop,if_pos hi,List.flatMap_append,List.flatMap_cons];rw[h1,← h2,List.take_left,List.append_assoc]
 congr 2
 rw[← List.drop_drop,List.drop_left];rw[← hf l[i],List.drop_left]
theorem Zay {p:Ze}(q1:Ym p=true):1≤p.poll∧p.poll≤1000:=by
 simp only[Ym,Bool.and_eq_true]at q1;have:=q1.1.2;simp only[Y9,List.all_cons,List.all_nil,id,Bool.and_eq_true,wi_iff,decide_eq_true_eq,and_true]at this;omega
theorem Zql {p:Ze}{d:Zd}{ep:Int}(_ok:Zj p)(hd:ZG d)(q1:Ym p=true)(q4:wi ep 0 1073741824=true):ZM (VL p d ep):=by
 have q4':=wi_iff.1 q4;have q5:=Zay q1;have hn:=hd.n;simp only[List.forall_mem_cons]at hn;obtain⟨n1,n2,n3,n4,n5,n6,n7,_⟩:=hn;refine⟨hd.a,?_,hd.p⟩;simp only[VL,List.forall_mem_cons,List.not_mem_nil,false_implies,implies_true,and_true];omega
theorem Zzl {ql:List QM}{ms:List Zm}{p:Ze}{d:Zd}(v bv:Value)(ok:Zj p)(hv:Zh Y2 33 h v ql)(hq:ql.map (fun x=>x.2.2)=ms)(hm:Y7 h ql)(hl:ql.length≤1000)(hb:∀m∈ms,m.yes.length≤1000∧m.no.length≤1000)(hd:Zl h bv d)(ep:Int)
  (hk:∀h' r ql',PH.le h h'→Zh Y2 33 h' r ql'→ql'.map (fun x=>x.2.2)=(Ge p ms d ep).1→Y7 h' ql'→K (.tuple #[r,.int .i64 (Ge p ms d ep).2.1,.int .i64 (Ge p ms d ep).2.2]) L h') :
  Zb prog 309 [VQ p,v,Wu d bv,.int .i64 ep] L h K:=by
 have hql:ql.length=ms.length:=by rw[← hq,List.length_map]
 have hv0:=hv;obtain⟨va,vc,rfl,_⟩:=hv.open;obtain⟨x1,y1,rfl,_⟩:=hd.i.open;have bad:∀h' i e,PH.le h h'→Ge p ms d ep=([],i,e)→K (.tuple #[.slice none 0 0,.int .i64 i,.int .i64 e]) L h':=fun h' i e le eq=>by
  have:=hk h' (.slice none 0 0) [] le (Zh.nil Z9 h') (by rw[eq];rfl) (fun x hx=>by cases hx);rw[eq]at this;exact this
 refine ZR func309 rfl (rs:=[_,_,_]) rfl rfl ZY (by kernel_rfl) rfl rfl ?_;refine xx ?_;refine Z6 fun b4 nb4 zb4=>?_;(try simp only[ZU]at nb4);refine xx ?_;refine Z6 fun b6 nb6 zb6=>?_;(try simp only[ZU]at nb6);refine xx ?_;refine Vc p ok ?_
 cases q1:Ym p with
 | false =>
  have:=bad h 0 70 (PH.le_refl _) (by rw[Ge,q1];rfl);refine xx ?_;exact ZP (ZP (ZO this))
 | true =>
 by_cases q2:d.kind=6
 ·refine xx ?_;refine Zb.ap (Zga _ hd fun h1 le1 ap=>?_);simp only[Ap]at ap;obtain⟨a6,a4,_⟩:=ap
  cases q3:ZW d with
  | false =>
   have:=bad h1 0 80 le1 (by rw[Ge,q1,q3,Bool.and_false];rfl);refine xx ?_;exact ZP (ZP (ZO this))
  | true =>
  refine xx ?_;refine Uz _ _ _ ?_
  cases q4:wi ep 0 1073741824 with
  | false =>
   have:=bad h1 0 2 le1 (by rw[Ge,q1,q3,q4,decide_eq_true q2];rfl);refine xx ?_;exact ZP (ZP (ZO this))
  | true =>
  have q4':=wi_iff.1 q4;refine xx ?_;refine Zvq _ (hv0.up le1) hq ?_;have ale:=Ymd ms;have eO:Ge p ms d ep=if 31<atO ms then ([],0,161) else if atO ms=ms.length then (ms++[VL p d ep],(atO ms:Int),0) else (ms.set (atO ms) (VL p d ep),(atO ms:Int),0):=by
   rw[Ge,q1,q3,q4,decide_eq_true q2];rfl
  rw[eO]at bad hk;obtain⟨at',hat⟩:∃n,n=atO ms:=⟨_,rfl⟩
  rw[← hat]at ale bad hk ⊢;have rest:∀(E:Env) (Kc:Env→Own→PH→Prop),True:=fun _ _=>trivial;clear rest;by_cases c5:at'<ms.length
  ·rw[if_pos c5];refine xx ?_;by_cases c6:31<at'
   ·have:=bad h1 0 161 le1 (by rw[if_pos c6]);refine xx ?_;exact ZP (ZP (ZO this))
   rw[if_neg c6,if_neg (by omega)]at hk;refine xx ?_;refine Zcc _ (by decide) (by decide) ?_;rw[show G9 128=16 by decide];refine xx ?_;refine J5 (e:=5) (z:=.int .u8 0) (by kernel_rfl) Zmw rfl rfl .i64 .i64 16 (by decide) (by decide) (by decide) ?_;refine Z6 fun b39 nb39 zb39=>?_;have n39:=nb39;simp only[ZU]at n39;refine xx ?_;refine Wr (.tk 0 (.tk 2 (.tk 4 (.tk 6 (.tk 8 (.tk 10 (.tk 11 (.tk 14 (.tk 15 (.tkl 1 (.tkl 3 (.tkl 5 (.tkl 7 (.tkl 9 (.tkl 12 (.tk 13 (.o1 16 (.tk 17 (.o1 18 (.o2 19 (.fin) (.nil)) (.nil))) (.o1 18 (.o1 16 (.tk 17 (.o2 19 (.fin) (.nil))) (.nil)) (.nil))))))))))))))))))) (by kernel_rfl) (by kernel_rfl) [(1,.slice va ql.length vc),(3,.int .i64 ep),(4,.pointer (some ⟨b4,0,none⟩)),(6,.pointer (some ⟨b6,0,none⟩)),(9,.int .i64 at'),(11,.slice (some ⟨b39,0,none⟩) 16 16)] _ (γ:=Nat×QM×PH)
    (fun q=>PH.le h1 q.2.2∧Zw q.2.2 q.2.1∧q.2.1.2.2=VL p d ep∧ZU q.1 L∧q.2.2 q.1=noC)
    (fun q=>[(1,.slice va ql.length vc),(9,.int .i64 at'),(12,.pointer (some ⟨q.1,0,none⟩))])
    (fun q=>⟨q.1,75,Y2 q.2.1,33⟩::L) (fun q=>q.2.2) (by simp [Ent,List.lookup,WM]<;>omega) (Za.sub (.cons _ (.cons_cons _ (.cons_cons _ (List.nil_sublist _))))) ?_ ?_
   ·have mo:ZM (VL p d ep):=Zql ok hd.ok q1 q4;have bp:=Zay q1;refine xx ?_;refine YF ?_ ?_
    ·refine xx ?_;refine Vq (o:=some (b39,16)) (n:=16) (e:=5) (sz:=1) (xs:=List.replicate 16 (.int .u8 0)) ⟨Nat.le_refl _,by show 16≤maxLen;decide⟩ rfl (by decide) ⟨nb39,zb39⟩ fun h2 le2 sl2=>?_;have z2:=UJ (n:=16) sl2;refine Zb.ap (Y8 _ z2 (by simp) fun h3 r3 le3 i3 ap=>?_);simp only[Ap]at ap;obtain⟨a36,a34,_⟩:=ap;obtain⟨ra3,rc3,rfl,_⟩:=i3.open;refine xkp ((Za.forget (le2.trans le3)).trans (Za.sub (.cons_cons _ (.cons_cons _ (List.nil_sublist _))))) ?_;refine xx ?_;refine Z6 fun b12 nb12 zb12=>?_;(try simp only[ZU]at nb12)
     first|refine xkp ((Za.tail _ _ _).trans ((Za.forget (le2.trans le3)).trans (Za.sub (.cons_cons _ (.cons_cons _ (List.nil_sublist _)))))) ?_|skip
     refine xx ?_;exact⟨b12,.slice (some ⟨b39,0,none⟩) 16 16,.slice ra3 16 rc3,VL p d ep,h3,⟨le2.trans le3,⟨z2.up le3,i3,mo⟩,rfl,nb12.2.2,zb12⟩,by simp [Ent,List.lookup],Za.sub (.cons_cons _ (.cons _ (.cons _ (List.Sublist.refl _))))⟩
    ·refine xx ?_;refine Z6 fun b12 nb12 zb12=>?_;(try simp only[ZU]at nb12);refine xkp ((Za.tail _ _ _).trans (Za.sub (.cons _ (.cons_cons _ (.cons_cons _ (List.nil_sublist _)))))) ?_;refine xx ?_;refine Y0 (b:=b39) (cap:=16) (n:=16) (e:=5) (sz:=1) (xs:=List.replicate 16 (.int .u8 0)) [_] ⟨Nat.le_refl _,by show 16≤maxLen;decide⟩ rfl (by decide) zb39 fun h2 le2 sl2 o2=>?_;have z2:=UJ (n:=16) sl2;refine Zb.ap (Y8 _ z2 (by simp) fun h3 r3 le3 i3 ap=>?_);simp only[Ap,List.cons_append,List.nil_append]at ap;obtain⟨a3c,_⟩:=ap;obtain⟨ra3,rc3,rfl,_⟩:=i3.open
     first|refine xkp ((Za.tail _ _ _).trans ((Za.forget (le2.trans le3)).trans (Za.sub (.cons_cons _ (.cons_cons _ (List.nil_sublist _)))))) ?_|skip
     refine xx ?_;exact⟨b12,.slice (some ⟨b39,0,none⟩) 16 16,.slice ra3 16 rc3,VL p d ep,h3,⟨le2.trans le3,⟨z2.up le3,i3,mo⟩,rfl,nb12.2.2.2,a3c⟩,by simp [Ent,List.lookup],Za.sub (.cons_cons _ (.cons _ (.cons _ (List.Sublist.refl _))))⟩
   ·rintro⟨b12,qm,h4⟩ ⟨le4,im,eM,n12,hb12⟩;simp only at le4 im eM n12 hb12 ⊢;have le04:=le1.trans le4;refine xx ?_;refine Zb.ap (GW _ (hv0.up le04) hq (fun x hx=>(hm x hx).up le04) hl hb fun h5 o ql' le5 oko apo eq' mo' ap=>?_);obtain⟨a512,_⟩:=Ap.oent ap;simp only at a512;have hql':ql'.length=ms.length:=by rw[← eq',List.length_map]
    obtain⟨vy,vn,md⟩:=qm;simp only at eM;subst eM;obtain⟨mta,mtc,emt,_⟩:=Yh oko;have m12:apB o b12:=apo.head;obtain⟨bo,co,rfl⟩:∃bt cap,o=some (bt,cap):=by
     cases o with
     | none=>have:ms.length=0:=oko;omega
     | some p=>exact⟨_,_,rfl⟩
    have n12':bo≠b12:=m12;have hbo:h5 bo=noC:=apo.2;simp -dsimp -implicitDefEqProofs (disch:=first|with_reducible assumption|omega) [go_sem,Yg,Y2,Jb,List.cons_append,List.nil_append];have hfl:(ql'.flatMap Y2).length=ms.length*33:=by rw[Z3 Z9,hql']
    have hfl2:(ql'.map fun a=>(Y2 a).length).sum=ms.length*33:=by rw[← List.length_flatMap,hfl]
    have hk33:=Wv (n:=ms.length) (w:=33) c5 (m:=32) (by decide);rw[Yg];simp only[ovs];refine xx ?_;refine⟨by omega,⟨JG im.y,JG im.n⟩,?_⟩;refine Yox (Zyz Z9 ql' (i:=at') (by omega) (vy,vn,VL p d ep)) ?_;refine YE (e:=75) (sz:=33) (n:=ms.length) (o:=some (bo,co)) oko (by rw[Z3 Z9,List.length_set,hql']) (by omega) apo fun h6 le6 sl=>ZP (ZO ?_);have le06:=(le04.trans le5).trans le6;refine hk h6 _ (ql'.set at' (vy,vn,VL p d ep)) le06 ?_ ?_ ?_
    ·have:=Zh.pub (f:=Y2) (w:=33) (l:=ql'.set at' (vy,vn,VL p d ep)) (o:=some (bo,co)) Z9 (by rw[List.length_set,hql'];exact sl)
     rwa [List.length_set,hql']at this
    ·rw[List.map_set,eq']
    ·intro x hx;rcases List.mem_or_eq_of_mem_set hx with hx|rfl
     ·exact(mo' x hx).up le6
     ·exact(im.up le5).up le6
  ·rw[if_neg c5];have c7:at'=ms.length:=by omega
   refine xx ?_;by_cases c6:31<at'
   ·have:=bad h1 0 161 le1 (by rw[if_pos c6]);refine xx ?_;exact ZP (ZP (ZO this))
   rw[if_neg c6,if_pos c7]at hk;refine xx ?_;refine Zcc _ (by decide) (by decide) ?_;rw[show G9 128=16 by decide];refine xx ?_;refine J5 (e:=5) (z:=.int .u8 0) (by kernel_rfl) Zmw rfl rfl .i64 .i64 16 (by decide) (by decide) (by decide) ?_;refine Z6 fun b39 nb39 zb39=>?_;have n39:=nb39;simp only[ZU]at n39;refine xx ?_;refine Wr (.tk 0 (.tk 2 (.tk 4 (.tk 6 (.tk 8 (.tk 10 (.tk 11 (.tk 14 (.tk 15 (.tkl 1 (.tkl 3 (.tkl 5 (.tkl 7 (.tkl 9 (.tkl 12 (.tk 13 (.o1 16 (.tk 17 (.o1 18 (.o2 19 (.fin) (.nil)) (.nil))) (.o1 18 (.o1 16 (.tk 17 (.o2 19 (.fin) (.nil))) (.nil)) (.nil))))))))))))))))))) (by kernel_rfl) (by kernel_rfl) [(1,.slice va ql.length vc),(3,.int .i64 ep),(4,.pointer (some ⟨b4,0,none⟩)),(6,.pointer (some ⟨b6,0,none⟩)),(9,.int .i64 at'),(11,.slice (some ⟨b39,0,none⟩) 16 16)] _ (γ:=Nat×QM×PH)
    (fun q=>PH.le h1 q.2.2∧Zw q.2.2 q.2.1∧q.2.1.2.2=VL p d ep∧ZU q.1 L∧q.2.2 q.1=noC)
    (fun q=>[(1,.slice va ql.length vc),(9,.int .i64 at'),(12,.pointer (some ⟨q.1,0,none⟩))])
    (fun q=>⟨q.1,75,Y2 q.2.1,33⟩::L) (fun q=>q.2.2) (by simp [Ent,List.lookup,WM]<;>omega) (Za.sub (.cons _ (.cons_cons _ (.cons_cons _ (List.nil_sublist _))))) ?_ ?_
   ·have mo:ZM (VL p d ep):=Zql ok hd.ok q1 q4;have bp:=Zay q1;refine xx ?_;refine YF ?_ ?_
    ·refine xx ?_;refine Vq (o:=some (b39,16)) (n:=16) (e:=5) (sz:=1) (xs:=List.replicate 16 (.int .u8 0)) ⟨Nat.le_refl _,by show 16≤maxLen;decide⟩ rfl (by decide) ⟨nb39,zb39⟩ fun h2 le2 sl2=>?_;have z2:=UJ (n:=16) sl2;refine Zb.ap (Y8 _ z2 (by simp) fun h3 r3 le3 i3 ap=>?_);simp only[Ap]at ap;obtain⟨a36,a34,_⟩:=ap;obtain⟨ra3,rc3,rfl,_⟩:=i3.open;refine xkp ((Za.forget (le2.trans le3)).trans (Za.sub (.cons_cons _ (.cons_cons _ (List.nil_sublist _))))) ?_;refine xx ?_;refine Z6 fun b12 nb12 zb12=>?_;(try simp only[ZU]at nb12)
     first|refine xkp ((Za.tail _ _ _).trans ((Za.forget (le2.trans le3)).trans (Za.sub (.cons_cons _ (.cons_cons _ (List.nil_sublist _)))))) ?_|skip
     refine xx ?_;exact⟨b12,.slice (some ⟨b39,0,none⟩) 16 16,.slice ra3 16 rc3,VL p d ep,h3,⟨le2.trans le3,⟨z2.up le3,i3,mo⟩,rfl,nb12.2.2,zb12⟩,by simp [Ent,List.lookup],Za.sub (.cons_cons _ (.cons _ (.cons _ (List.Sublist.refl _))))⟩
    ·refine xx ?_;refine Z6 fun b12 nb12 zb12=>?_;(try simp only[ZU]at nb12);refine xkp ((Za.tail _ _ _).trans (Za.sub (.cons _ (.cons_cons _ (.cons_cons _ (List.nil_sublist _)))))) ?_;refine xx ?_;refine Y0 (b:=b39) (cap:=16) (n:=16) (e:=5) (sz:=1) (xs:=List.replicate 16 (.int .u8 0)) [_] ⟨Nat.le_refl _,by show 16≤maxLen;decide⟩ rfl (by decide) zb39 fun h2 le2 sl2 o2=>?_;have z2:=UJ (n:=16) sl2;refine Zb.ap (Y8 _ z2 (by simp) fun h3 r3 le3 i3 ap=>?_);simp only[Ap,List.cons_append,List.nil_append]at ap;obtain⟨a3c,_⟩:=ap;obtain⟨ra3,rc3,rfl,_⟩:=i3.open
     first|refine xkp ((Za.tail _ _ _).trans ((Za.forget (le2.trans le3)).trans (Za.sub (.cons_cons _ (.cons_cons _ (List.nil_sublist _)))))) ?_|skip
     refine xx ?_;exact⟨b12,.slice (some ⟨b39,0,none⟩) 16 16,.slice ra3 16 rc3,VL p d ep,h3,⟨le2.trans le3,⟨z2.up le3,i3,mo⟩,rfl,nb12.2.2.2,a3c⟩,by simp [Ent,List.lookup],Za.sub (.cons_cons _ (.cons _ (.cons _ (List.Sublist.refl _))))⟩
   ·rintro⟨b12,qm,h4⟩ ⟨le4,im,eM,n12,hb12⟩;simp only at le4 im eM n12 hb12 ⊢;have le04:=le1.trans le4;refine xx ?_;refine Zb.ap (GW _ (hv0.up le04) hq (fun x hx=>(hm x hx).up le04) hl hb fun h5 o ql' le5 oko apo eq' mo' ap=>?_);obtain⟨a512,_⟩:=Ap.oent ap;simp only at a512;have hql':ql'.length=ms.length:=by rw[← eq',List.length_map]
    obtain⟨vy,vn,md⟩:=qm;simp only at eM;subst eM;obtain⟨mta,mtc,emt,_⟩:=Yh oko;have m12:apB o b12:=apo.head;rw[emt];simp -dsimp -implicitDefEqProofs (disch:=first|with_reducible assumption|omega) [go_sem,ZQ m12,Y2,Jb,List.cons_append,List.nil_append];refine Z6 fun bx n_bx h_bx=>?_;(try simp only[ZU]at n_bx);refine xx ?_;rw[← emt];have hfl:(ql'.flatMap Y2).length=ms.length*33:=by rw[Z3 Z9,hql']
    refine Z8 (t:=35) (e:=75) (sz:=33) (bytes:=296) (by kernel_rfl) Yoc rfl rfl rfl rfl (by decide) [_] _ o ms.length (ql'.flatMap Y2) oko hfl (Src.own (b:=bx) List.mem_cons_self) (m:=1) (news:=Y2 (vy,vn,VL p d ep)) (by rfl) (Zro im) (by simp [maxLen];omega) (by omega) ?_;intro o' j1 j2 j3;simp only[List.cons_append,List.nil_append]at j2 ⊢;refine xx ?_;refine ZP (YE (e:=75) (sz:=33) (n:=ms.length+1) j1 (by rw[List.length_append,hfl];show ms.length*33+33=(ms.length+1)*33;omega) (by omega) (Z2 j2) fun h6 le6 sl=>?_);have le06:=(le04.trans le5).trans le6;refine ZP (ZO (hk h6 _ (ql'++[(vy,vn,VL p d ep)]) le06 ?_ ?_ ?_))
    ·have:=Zh.pub (f:=Y2) (w:=33) (l:=ql'++[(vy,vn,VL p d ep)]) (o:=o') Z9 (by rw[List.length_append,hql'];simpa using sl)
     rwa [List.length_append,hql']at this
    ·simp [eq']
    ·intro x hx;rcases List.mem_append.1 hx with hx|hx
     ·exact(mo' x hx).up le6
     ·rw[List.mem_singleton.1 hx];exact(im.up le5).up le6
 ·have:=bad h 0 80 (PH.le_refl _) (by rw[Ge,q1,decide_eq_false q2,Bool.false_and];rfl);refine xx ?_;exact ZP (ZP (ZO this))
def UE (m:Zm)(mem:Int)(yes:Bool):Zm×Int :=
 if m.state≠1 then (m,232) else if Vs m.yes mem||Vs m.no mem then (m,231) else if yes then ({ m with yes:=Zep m.yes mem },0) else ({ m with no:=Zep m.no mem },0)
abbrev mvB (bo cap:Nat)(ql:List QM):Zo:=⟨bo,75,ql.flatMap Y2,cap⟩
abbrev mvN (b6:Nat)(mem:Int):Zo:=⟨b6,3,[.int .i64 mem],1⟩
abbrev mvY (b7:Nat)(yes:Bool):Zo:=⟨b7,4,[.bool yes],1⟩
theorem Zsi {ql:List QM}{k:Nat}(hk:k<ql.length)(a b:Value)(m:Zm):(ql.set k (a,b,m)).map (fun x=>x.2.2)=(ql.map (fun x=>x.2.2)).set k m:=by rw[List.map_set]
theorem Ycs {ql:List QM}{k:Nat}{q:QM}{h:PH}(hm:Y7 h ql)(hq:Zw h q):Y7 h (ql.set k q):=fun x hx=>by
 rcases List.mem_or_eq_of_mem_set hx with hx|rfl
 ·exact hm x hx
 ·exact hq
theorem Yps {ql:List QM}{bo cap b6 b7 k:Nat}{mem:Int}{yes:Bool}(hkl:k<ql.length)(hl:ql.length≤1000)(hm:Y7 h ql)(hv:∀x∈ql,x.2.2.yes.length=16∧x.2.2.no.length=16)(hmem:0≤mem∧mem≤127)
  (hk:∀h' ql',PH.le h h'→ql'.length=ql.length→ql'.map (fun x=>x.2.2)=(ql.map (fun x=>x.2.2)).set k (UE (gr Yc ql k).2.2 mem yes).1→Y7 h' ql'→K (.int .i64 (UE (gr Yc ql k).2.2 mem yes).2) (mvB bo cap ql'::mvY b7 yes::mvN b6 mem::L) h') :
  Zb prog 354 [.pointer (some ⟨bo,k*33,none⟩),.pointer (some ⟨b6,0,none⟩),.pointer (some ⟨b7,0,none⟩)] (mvB bo cap ql::mvY b7 yes::mvN b6 mem::L) h K:=by
 obtain⟨qk,hqk⟩:∃qk,qk=gr Yc ql k:=⟨_,rfl⟩
 have hmem':qk∈ql:=by rw[hqk,Yl hkl];exact List.getElem_mem _
 have hmk:Zw h qk:=hm qk hmem';have hvk:=hv qk hmem';rw[← hqk]at hk;have hset0:(ql.map (fun x=>x.2.2)).set k qk.2.2=ql.map (fun x=>x.2.2):=by
  rw[hqk,Yl hkl];apply List.ext_getElem?;intro n;rw[List.getElem?_set];split
  ·rename_i e;subst e;simp [hkl]
  ·rfl
 obtain⟨vy,vn,md⟩:=qk;have hy:=hmk.y;have hn:=hmk.n;have hok:=hmk.ok;simp only at hy hn hk hvk hset0 hok;obtain⟨ya,yc,rfl,_⟩:=hy.open;obtain⟨na,nc,rfl,_⟩:=hn.open;have g30:∀(K:Value→Prop) (t:Zq K),VP (ql.flatMap Y2) (k*33+30) K t=K (.int .i64 md.state):=fun K t=>Yq Z9 Yc ql hkl (by decide) (by rw[← hqk];rfl) K t;have g31:∀(K:Value→Prop) (t:Zq K),VP (ql.flatMap Y2) (k*33+31) K t=K (.slice ya md.yes.length yc):=fun K t=>Yq Z9 Yc ql hkl (by decide) (by rw[← hqk];rfl) K t;have g32:∀(K:Value→Prop) (t:Zq K),VP (ql.flatMap Y2) (k*33+32) K t=K (.slice na md.no.length nc):=fun K t=>Yq Z9 Yc ql hkl (by decide) (by rw[← hqk];rfl) K t;have hset1:∀a ac b bc (m:Zm),m.acct=md.acct→m.what=md.what→m.par=md.par→m.to=md.to→m.amt=md.amt→m.ends=md.ends→m.due=md.due→m.state=md.state→b=na→bc=nc→m.no=md.no→m.yes.length=md.yes.length→(ql.flatMap Y2).set (k*33+31) (.slice a md.yes.length ac)=(ql.set k (.slice a m.yes.length ac,.slice b m.no.length bc,m)).flatMap Y2:=fun a ac b bc m e1 e2 e3 e4 e5 e6 e7 e8 e9 e10 e11 e12 =>
  Wm Z9 Yc ql (i:=k) (m:=31) hkl (by decide) (by rw[← hqk];simp [Y2,Jb,e1,e2,e3,e4,e5,e6,e7,e8,e9,e10,e11,e12])
 have hset2:∀a ac b bc (m:Zm),m.acct=md.acct→m.what=md.what→m.par=md.par→m.to=md.to→m.amt=md.amt→m.ends=md.ends→m.due=md.due→m.state=md.state→a=ya→ac=yc→m.yes=md.yes→m.no.length=md.no.length→(ql.flatMap Y2).set (k*33+32) (.slice b md.no.length bc)=(ql.set k (.slice a m.yes.length ac,.slice b m.no.length bc,m)).flatMap Y2:=fun a ac b bc m e1 e2 e3 e4 e5 e6 e7 e8 e9 e10 e11 e12 =>
  Wm Z9 Yc ql (i:=k) (m:=32) hkl (by decide) (by rw[← hqk];simp [Y2,Jb,e1,e2,e3,e4,e5,e6,e7,e8,e9,e10,e11,e12])
 have stay:∀h' e,PH.le h h'→UE md mem yes=(md,e)→K (.int .i64 e) (mvB bo cap ql::mvY b7 yes::mvN b6 mem::L) h':=fun h' e le eq=>by
  have:=hk h' ql le rfl (by rw[eq,hset0]) (fun x hx=>(hm x hx).up le);rw[eq]at this;exact this
 refine Z4 func354 rfl (rs:=[_]) rfl rfl ZY (by kernel_rfl) rfl rfl fun ap nd=>?_;obtain⟨apo,ap7,ap6,apl⟩:=ap;simp only[Nd,ZU]at nd;obtain⟨⟨nd1,nd2,nd3⟩,⟨nd4,nd5⟩,_⟩:=nd;have hfl:(ql.flatMap Y2).length=ql.length*33:=Z3 Z9 ql;have hk33:=Wv (n:=ql.length) (w:=33) hkl (m:=32) (by decide);have hsum:(ql.map fun a=>(Y2 a).length).sum=ql.length*33:=by rw[← List.length_flatMap,hfl]
 simp -dsimp -implicitDefEqProofs (disch:=first|with_reducible assumption|omega) [go_sem,g30,g31,g32];by_cases c1:md.state=1
 ·simp -dsimp -implicitDefEqProofs (disch:=first|with_reducible assumption|omega) [go_sem,c1];refine Yr (.tk 0 (.tk 1 (.tk 2 (.tkl 3 (.tkl 4 (.o1 5 (.tk 6 (.tk 7 (.tk 8 (.tk 9 (.tk 10 (.fin)))))) (.nil))))))) (by kernel_rfl) (by kernel_rfl) _ (Za.refl _ _) ?_;simp -dsimp -implicitDefEqProofs (disch:=first|with_reducible assumption|omega) [go_sem,g30,g31,g32];have b1:=Jd hy;have b2:=Jd hn;have sy:(Zep md.yes mem).length=md.yes.length:=by simp [Zep]
  have sn:(Zep md.no mem).length=md.no.length:=by simp [Zep]
  refine Zb.ap (Yci _ _ hy (by omega) hmem.1 (by omega) (by omega) fun h2 r2 le2 i2 ap=>?_);simp only[Ap]at ap;obtain⟨ap2o,ap27,ap26,_⟩:=ap;obtain⟨ra2,rc2,rfl,_⟩:=i2.open;refine xkp (Za.forget le2) ?_;simp -dsimp -implicitDefEqProofs (disch:=first|with_reducible assumption|omega) [go_sem,g30,g31,g32];refine Yr (.tk 0 (.tk 1 (.tk 2 (.tkl 3 (.tkl 4 (.o1 5 (.tk 6 (.tk 7 (.tk 8 (.tk 9 (.tk 10 (.fin)))))) (.nil))))))) (by kernel_rfl) (by kernel_rfl) _ (Za.refl _ _) ?_;simp -dsimp -implicitDefEqProofs (disch:=first|with_reducible assumption|omega) [go_sem,g30,g31,g32];refine Zb.ap (Yci _ _ (hn.up le2) (by omega) hmem.1 (by omega) (by omega) fun h3 r3 le3 i3 ap=>?_);simp only[Ap]at ap;obtain⟨ap3o,ap37,ap36,_⟩:=ap;obtain⟨ra3,rc3,rfl,_⟩:=i3.open;have le23:=le2.trans le3
  first|refine xkp (Za.forget le3) ?_|skip
  simp -dsimp -implicitDefEqProofs (disch:=first|with_reducible assumption|omega) [go_sem,g30,g31,g32];refine Uz _ _ _ ?_;rw[show wi mem 0 127=true from wi_iff.2 hmem];simp -dsimp -implicitDefEqProofs (disch:=first|with_reducible assumption|omega) [go_sem,g30,g31,g32];refine Yr (.tk 0 (.tk 1 (.tk 2 (.tkl 3 (.tkl 4 (.o1 5 (.tk 6 (.tk 7 (.tk 8 (.tk 9 (.tkl 10 (.tkl 11 (.o1 12 (.tk 13 (.tk 14 (.fin))) (.nil)))))))) (.nil))))))) (by kernel_rfl) (by kernel_rfl) _ (Za.refl _ _) ?_;simp -dsimp -implicitDefEqProofs (disch:=first|with_reducible assumption|omega) [go_sem,g30,g31,g32];refine Zan _ _ (hy.up le23) (by omega) ?_
  first|refine xkp (Za.refl _ _) ?_|skip
  have fin1:∀e,e=231→(Vs md.yes mem||Vs md.no mem)=true→UE md mem yes=(md,e):=fun e he hb=>by
   rw[UE,if_neg (by simp [c1]),hb,if_pos rfl,he]
  have fin2:(Vs md.yes mem||Vs md.no mem)=false→UE md mem yes=if yes then ({ md with yes:=Zep md.yes mem },0) else ({ md with no:=Zep md.no mem },0):=fun hb=>by
   rw[UE,if_neg (by simp [c1]),hb,if_neg (by decide)]
  cases g1:Vs md.yes mem with
  | true =>
   have:=stay h3 231 le23 (fin1 _ rfl (by rw[g1];rfl));simp -dsimp -implicitDefEqProofs (disch:=first|with_reducible assumption|omega) [go_sem,g30,g31,g32];exact ZO this
  | false =>
  simp -dsimp -implicitDefEqProofs (disch:=first|with_reducible assumption|omega) [go_sem,g30,g31,g32];refine Zan _ _ (hn.up le23) (by omega) ?_
  first|refine xkp (Za.refl _ _) ?_|skip
  cases g2:Vs md.no mem with
  | true =>
   have:=stay h3 231 le23 (fin1 _ rfl (by rw[g1,g2];rfl));simp -dsimp -implicitDefEqProofs (disch:=first|with_reducible assumption|omega) [go_sem,g30,g31,g32];exact ZO this
  | false =>
  have f2:=fin2 (by rw[g1,g2];rfl);have hyl:md.yes.length=16:=hvk.1;have hnl:md.no.length=16:=hvk.2
  cases yes with
  | true =>
   rw[if_pos rfl]at f2;rw[sy];simp -dsimp -implicitDefEqProofs (disch:=first|with_reducible assumption|omega) [go_sem,g30,g31,g32];have e1:=hset1 ra2 rc2 na nc { md with yes:=Zep md.yes mem } rfl rfl rfl rfl rfl rfl rfl rfl rfl rfl rfl sy;refine⟨by omega,?_⟩;refine Yox e1 (ZO ?_);have:=hk h3 (ql.set k (.slice ra2 (Zep md.yes mem).length rc2,.slice na md.no.length nc,{ md with yes:=Zep md.yes mem })) le23 (by rw[List.length_set]) (by rw[Zsi hkl,f2]) (Ycs (fun x hx=>(hm x hx).up le23) ⟨i2.up le3,hn.up le23,⟨hok.a,hok.n,hok.p⟩⟩);rw[f2]at this;exact this
  | false =>
   rw[if_neg (by decide)]at f2;rw[sn];simp -dsimp -implicitDefEqProofs (disch:=first|with_reducible assumption|omega) [go_sem,g30,g31,g32];have e1:=hset2 ya yc ra3 rc3 { md with no:=Zep md.no mem } rfl rfl rfl rfl rfl rfl rfl rfl rfl rfl rfl sn;refine⟨by omega,?_⟩;refine Yox e1 (ZO ?_);have:=hk h3 (ql.set k (.slice ya md.yes.length yc,.slice ra3 (Zep md.no mem).length rc3,{ md with no:=Zep md.no mem })) le23 (by rw[List.length_set]) (by rw[Zsi hkl,f2]) (Ycs (fun x hx=>(hm x hx).up le23) ⟨hy.up le23,i3,⟨hok.a,hok.n,hok.p⟩⟩);rw[f2]at this;exact this
 ·have:=stay h 232 (PH.le_refl _) (by rw[UE,if_pos c1]);refine xx ?_;exact ZO this
def GI (ms:List Zm)(i mem:Int)(yes:Bool):List Zm×Int :=
 if wi i 0 ((ms.length:Int)-1) then (if (UE (gr Yj ms i.toNat) mem yes).2=0 then (ms.set i.toNat (UE (gr Yj ms i.toNat) mem yes).1,0) else ([],(UE (gr Yj ms i.toNat) mem yes).2)) else ([],230)
theorem Zvb (m:Zm)(mem:Int)(yes:Bool):(UE m mem yes).2=0∨(UE m mem yes).2=231∨(UE m mem yes).2=232:=by
 unfold UE;split
 ·exact Or.inr (Or.inr rfl)
 ·split
  ·exact Or.inr (Or.inl rfl)
  ·split<;>exact Or.inl rfl
theorem Yjr {ql:List QM}{ms:List Zm}{b6 b7:Nat}(v:Value)(hv:Zh Y2 33 h v ql)(hq:ql.map (fun x=>x.2.2)=ms)(hm:Y7 h ql)(hl:ql.length≤1000)(hb:∀m∈ms,m.yes.length=16∧m.no.length=16)(i mem:Int)(hi : -9223372036854775808≤i∧i≤9223372036854775807)(hmem:0≤mem∧mem≤127)(yes:Bool)
  (hk:∀h' r ql',PH.le h h'→Zh Y2 33 h' r ql'→ql'.map (fun x=>x.2.2)=(GI ms i mem yes).1→Y7 h' ql'→K (.tuple #[r,.int .i64 (GI ms i mem yes).2]) L h') :
  Zb prog 272 [v,.int .i64 i,.func (.func 354) #[] #[.pointer (some ⟨b6,0,none⟩),.pointer (some ⟨b7,0,none⟩)]] (mvY b7 yes::mvN b6 mem::L) h K:=by
 have hql:ql.length=ms.length:=by rw[← hq,List.length_map]
 have hv0:=hv;obtain⟨va,vc,rfl,_⟩:=hv.open;have bad:∀h' e,PH.le h h'→GI ms i mem yes=([],e)→K (.tuple #[.slice none 0 0,.int .i64 e]) L h':=fun h' e le eq=>by
  have:=hk h' (.slice none 0 0) [] le (Zh.nil Z9 h') (by rw[eq];rfl) (fun x hx=>by cases hx);rw[eq]at this;exact this
 refine Z4 func272 rfl (rs:=[_,_]) rfl rfl ZY (by kernel_rfl) rfl rfl fun ap nd=>?_;obtain⟨ap7,ap6,apl⟩:=ap;simp only[Nd,ZU]at nd;obtain⟨⟨nd1,nd2⟩,_⟩:=nd;refine xx ?_;refine Uz _ _ _ ?_;rw[hql]at hv0 ⊢
 cases q1:wi i 0 ((ms.length:Int)-1) with
 | false =>
  have:=bad h 230 (PH.le_refl _) (by rw[GI,q1];rfl);refine xx ?_;exact ZP (ZP (ZO this))
 | true =>
 have q1':=wi_iff.1 q1;obtain⟨k,rfl⟩:=Int.eq_ofNat_of_zero_le q1'.1;have hkl:k<ms.length:=by omega
 have ev:GI ms k mem yes=if (UE (gr Yj ms k) mem yes).2=0 then (ms.set k (UE (gr Yj ms k) mem yes).1,0) else ([],(UE (gr Yj ms k) mem yes).2):=by
  rw[GI,q1,if_pos rfl];rfl
 refine xx ?_;refine Zb.apn (GW _ hv0 hq hm hl (fun m hm=>by have:=hb m hm;omega) fun h5 o ql' le5 oko apo eq' mo' ap nd=>?_);have hql':ql'.length=ms.length:=by rw[← eq',List.length_map]
 obtain⟨bo,co,rfl⟩:∃bt cap,o=some (bt,cap):=by
  cases o with
  | none=>have:ms.length=0:=oko;omega
  | some p=>exact⟨_,_,rfl⟩
 have hbo:h5 bo=noC:=apo.2;obtain⟨_,ap57,ap56,_⟩:=ap;rw[Yg];simp only[ovs];refine xx ?_;have egr:(gr Yc ql' k).2.2=gr Yj ms k:=by
  rw[Yl (by omega),Yl hkl];subst eq';simp
 refine Zb.ap (Yps (by omega) (by omega) mo' (fun x hx=>hb _ (by rw[← eq'];exact List.mem_map_of_mem hx)) hmem fun h6 ql2 le6 l2 e2 m2 ap=>?_);have hbo6:h6 bo=noC:=ap.1;clear ap;rw[egr]at e2 ⊢;rw[eq']at e2;have ec:=Zvb (gr Yj ms k) mem yes;obtain⟨c,hc⟩:∃c,c=UE (gr Yj ms k) mem yes:=⟨_,rfl⟩
 rw[← hc]at e2 ev ec ⊢;obtain⟨cm,ce⟩:=c;simp only at e2 ev ec ⊢;by_cases c0:ce=0
 ·subst c0;rw[if_pos rfl]at ev;refine xx ?_;have hl2:ql2.length=ms.length:=by rw[l2,hql']
  refine YE (e:=75) (sz:=33) (n:=ms.length) (o:=some (bo,co)) oko (by rw[Z3 Z9,hl2]) (by omega) (L0:=[]) ⟨trivial,hbo6⟩ fun h7 le7 sl=>ZP (ZP (ZO ?_));have:=hk h7 _ ql2 ((le5.trans le6).trans le7) (by have:=Zh.pub (f:=Y2) (w:=33) (l:=ql2) (o:=some (bo,co)) Z9 (by rw[hl2];exact sl);rwa [hl2]at this) (by rw[ev];exact e2) (fun x hx=>(m2 x hx).up le7);rw[ev]at this;exact this
 ·rw[if_neg c0]at ev;have:=bad h6 ce (le5.trans le6) ev;refine xx ?_;exact ZP (ZP (ZP (ZO this)))
theorem Zxt {ql:List QM}{ms:List Zm}(v:Value)(hv:Zh Y2 33 h v ql)(hq:ql.map (fun x=>x.2.2)=ms)(hm:Y7 h ql)(hl:ql.length≤1000)(hb:∀m∈ms,m.yes.length=16∧m.no.length=16)(i mem:Int)(hi : -9223372036854775808≤i∧i≤9223372036854775807)(hmem:0≤mem∧mem≤127)(yes:Bool)
  (hk:∀h' r ql',PH.le h h'→Zh Y2 33 h' r ql'→ql'.map (fun x=>x.2.2)=(GI ms i mem yes).1→Y7 h' ql'→K (.tuple #[r,.int .i64 (GI ms i mem yes).2]) L h') :
  Zb prog 310 [v,.int .i64 i,.int .i64 mem,.bool yes] L h K:=by
 refine ZR func310 rfl (rs:=[_,_]) rfl rfl ZY (by kernel_rfl) rfl rfl ?_;refine xx ?_;refine Z6 fun b6 nb6 zb6=>?_;(try simp only[ZU]at nb6);refine xx ?_;refine Z6 fun b7 nb7 zb7=>?_;(try simp only[ZU]at nb7);refine xx ?_;refine Yjr v hv hq hm hl hb i mem hi hmem yes fun h' r ql' le i1 i2 i3=>?_;have:=hk h' r ql' le i1 i2 i3;refine xx ?_;exact ZO this
theorem Nt.sl {v:Value}{n:Int}{m:Nat}(hs:Nt h v n m):∃a k c,v = .agg #[.slice a k c]:=by
 obtain⟨s,ds,rfl,b,_⟩:=hs;obtain⟨a,c,rfl,_⟩:=b.open;exact⟨a,_,c,rfl⟩
theorem Zjt {P:Program}{T:Nat}{ks:List IntKind}(ht:P.underlying T=some (.struct (P.fieldsOf T)))(hp:P.stoodInHeld T=false)(hg:P.eqGuardType P.depth T=false)(hok:okF P (P.fieldsOf T).toList 0 ks=true)(ps qs:List Int)(ha:ps.length=ks.length)(hb:qs.length=ks.length)
  (x y:Operand) (K:Value→Prop) (t:Zq K):Uj P .neq T x y (.agg (List.zipWith Value.int ks ps).toArray) (.agg (List.zipWith Value.int ks qs).toArray) K t=K (.bool (!decide (ps=qs))) :=
 YI (fun W=>by
  simp only[Sem.run_bind,run_eqGuard_agg W .neq T x y _ _ hg,Result.andThen_ok,run_neq_struct,Gw ht hp hok ps qs ha hb W]) K
def fI (zs:List Int)(x:Int):Int:=if W7 (fun k=>decide (at0 zs k=x)) zs.length 0=zs.length then -1 else (W7 (fun k=>decide (at0 zs k=x)) zs.length 0:Nat)
theorem Ykg (zs:List Int)(x:Int):0≤fI zs x↔x∈zs:=by
 obtain⟨_,h2,h3,h4⟩:=Vx (fun k=>decide (at0 zs k=x)) zs.length 0;unfold fI
 constructor
 ·intro h;split at h
  ·omega
  ·rename_i c;have:=h4 (by omega);simp only[decide_eq_true_eq]at this;rw[← this,← Yx (by omega)];exact List.getElem_mem _
 ·intro h;obtain⟨j,hj,e⟩:=List.mem_iff_getElem.1 h;rw[if_neg]
  ·omega
  ·intro c;have:=h3 j (by omega) (by omega);rw[Yx hj]at e;simp [e]at this
theorem Zuu {α:Type}{f:α→List Value}(h1:∀a,∀u∈f a,u.oneCell'=true)(l:List α):∀u∈l.flatMap f,u.oneCell'=true:=fun u hu=>by
 obtain⟨a,_,hb⟩:=List.mem_flatMap.1 hu;exact h1 a u hb
theorem G0 {l:List Zn}(v:Value)(hv:Zh UY 4 h v l)(hl:l.length≤1000)(hk:∀o,okO o l.length→apO o L h→K (ovs o l.length) (oent 139 4 o (l.flatMap UY) L) h):Zb prog 66 [v] L h K:=by
 have hx:=hv;obtain⟨a,ca,rfl,hna,hca,h0,_⟩:=hx.open;refine ZR func66 rfl (rs:=[_]) rfl rfl ZY (by kernel_rfl) rfl rfl ?_;refine xx ?_
 cases ha:a.isNone with
 | true =>
  have ha':a=none:=by simpa using ha
  subst ha';have hl0:l.length=0:=by have:=h0 rfl;omega
  have hx':l=[]:=List.eq_nil_of_length_eq_zero hl0;subst hx';refine xx ?_;exact ZO (hk none rfl trivial)
 | false =>
  refine xx ?_;refine Z6 fun b1 nb1 zb1=>?_;(try simp only[ZU]at nb1);refine xx ?_;refine Z8 (t:=33) (e:=139) (sz:=4) (bytes:=32) (by kernel_rfl) JB rfl rfl rfl rfl (by decide) [] L (some (b1,0)) 0 [] ⟨Nat.le_refl _,Nat.zero_le _⟩ rfl (Src.known hx.s) (news:=l.flatMap UY) (Z3 YW l) (Zuu JV l) (by simp [maxLen];omega) (by omega) ?_;intro o' j1 j2 j3;simp only[Nat.zero_add,List.nil_append]at j1 j2 ⊢;refine xx ?_;exact ZO (hk o' j1 j2)
def Zlc (l:List Zn)(d:Zn):List Zn×Int:=if Zcy d then (if l.length<256 then (l++[d],0) else ([],161)) else ([],2)
theorem Y4 {x:Zo}{e sz:Nat}{o:Option (Nat×Nat)}{xs:List Value}{L:Own}(hx:x∈L):x∈oent e sz o xs L:=by
 cases o with
 | none=>exact hx
 | some p=>exact List.mem_cons_of_mem _ hx
theorem Wdg {l:List Zn}(v:Value)(hv:Zh UY 4 h v l)(hl:l.length≤1000)(d:Zn)(ok:ZE d)(hk:∀h' r,PH.le h h'→Zh UY 4 h' r (Zlc l d).1→K (.tuple #[r,.int .i64 (Zlc l d).2]) L h'):Zb prog 132 [v,depV d] L h K:=by
 have ua:=ok.a;have hv0:=hv;obtain⟨pa,pc,rfl,_⟩:=hv.open;have bad:Zcy d=false→K (.tuple #[.slice none 0 0,.int .i64 2]) L h:=fun e=>by
  have:=hk h (.slice none 0 0) (PH.le_refl _) (by rw[Zlc,e];exact Zh.nil YW h);rw[Zlc,e]at this;exact this
 obtain⟨ac,me,am,nw⟩:=d;simp only at ua;refine ZR func132 rfl (rs:=[_,_]) rfl rfl ZY (by kernel_rfl) rfl rfl ?_;refine xx ?_;refine Z6 fun b1 nb1 zb1=>?_;(try simp only[ZU]at nb1);refine xx ?_;refine Zdw _ _ _ ?_
 cases q1:wi ac 0 63 with
 | false =>
  have:=bad (by simp only[Zcy,q1,Bool.false_and]);refine xx ?_;exact ZP (ZO this)
 | true =>
 refine xx ?_;refine Zdw _ _ _ ?_
 cases q2:wi me 0 127 with
 | false =>
  have:=bad (by simp only[Zcy,q2,Bool.and_false,Bool.false_and]);refine xx ?_;exact ZP (ZO this)
 | true =>
 have tail:Zcy ⟨ac,me,am,nw⟩=true→l.length<256→∀h' r,PH.le h h'→Zh UY 4 h' r (l++[⟨ac,me,am,nw⟩])→K (.tuple #[r,.int .i64 0]) L h':=fun e1 e2 h' r le i=>by
  have:=hk h' r le (by rw[Zlc,if_pos e1,if_pos e2];exact i);rw[Zlc,if_pos e1,if_pos e2]at this;exact this
 have full:Zcy ⟨ac,me,am,nw⟩=true→¬l.length<256→K (.tuple #[.slice none 0 0,.int .i64 161]) L h:=fun e1 e2=>by
  have:=hk h (.slice none 0 0) (PH.le_refl _) (by rw[Zlc,if_pos e1,if_neg e2];exact Zh.nil YW h);rw[Zlc,if_pos e1,if_neg e2]at this;exact this
 clear hk
 cases nw with
 | true =>
  by_cases q4:me=0
  ·subst q4;have rr:Zcy ⟨ac,0,am,true⟩=(decide (1≤am)&&decide (am≤4611686018427387904)):=by simp [Zcy,q1,q2]
   by_cases q5:1≤am
   ·by_cases q6:am≤4611686018427387904
    ·have eB:Zcy ⟨ac,0,am,true⟩=true:=by rw[rr,decide_eq_true q5,decide_eq_true q6];rfl
     by_cases q7:l.length<256
     ·have good:=tail eB q7;clear bad tail full rr;refine xx ?_;have sb:∀x:Zo,Za (x::L) h [x] h:=fun x=>Za.mem List.mem_cons_self;refine Yr (.tk 0 (.tkl 2 (.o1 1 (.o1 3 (.o1 4 (.tk 5 (.tk 6 (.fin))) (.nil)) (.nil)) (.o1 3 (.o1 1 (.o1 4 (.tk 5 (.tk 6 (.fin))) (.nil)) (.nil)) (.nil))))) (by kernel_rfl) (by kernel_rfl) _ (sb _) ?_;refine xx ?_;refine YF ?_ ?_
      ·refine xx ?_;refine G0 _ hv0 hl fun o k1 k2=>?_;refine xkp ((Za.oent _ _ _ _ _ _).trans (sb _)) ?_;refine xx ?_;refine Z6 fun b2 nb2 zb2=>?_;(try simp only[ZU]at nb2);refine xkp ((Za.tail _ _ _).trans ((Za.oent _ _ _ _ _ _).trans (sb _))) ?_;refine xx ?_;refine Z8 (t:=33) (e:=139) (sz:=4) (bytes:=32) (by kernel_rfl) JB rfl rfl rfl rfl (by decide) [_] _ o l.length (l.flatMap UY) k1 (Z3 YW l) (Src.own (b:=b2) List.mem_cons_self) (m:=1) (news:=UY ⟨ac,0,am,true⟩) (by rfl) (JV ⟨ac,0,am,true⟩) (by simp [maxLen];omega) (by omega) ?_;intro o' j1 j2 j3;simp only[List.cons_append,List.nil_append]at j2 ⊢;refine xkp ((Za.tail _ _ _).trans ((Za.oent _ _ _ _ _ _).trans (sb _))) ?_;refine xx ?_;refine ZP (YE (e:=139) (n:=l.length+1) j1 (by rw[List.length_append,Z3 YW];show l.length*4+4=(l.length+1)*4;omega) (by omega) (Z2 j2) fun h' le sl=>?_);exact ZP (ZO (good h' _ le ⟨YW,by simpa using sl⟩))
      ·refine xx ?_;refine Z6 fun b2 nb2 zb2=>?_;(try simp only[ZU]at nb2);refine xkp ((Za.tail _ _ _).trans (sb _)) ?_;refine xx ?_;refine G0 _ hv0 hl fun o k1 k2=>?_;refine xkp ((Za.oent _ _ _ _ _ _).trans ((Za.tail _ _ _).trans (sb _))) ?_;refine xx ?_;refine Z8 (t:=33) (e:=139) (sz:=4) (bytes:=32) (by kernel_rfl) JB rfl rfl rfl rfl (by decide) [] _ o l.length (l.flatMap UY) k1 (Z3 YW l) (Src.own (b:=b2) (Y4 List.mem_cons_self)) (m:=1) (news:=UY ⟨ac,0,am,true⟩) (by rfl) (JV ⟨ac,0,am,true⟩) (by simp [maxLen];omega) (by omega) ?_;intro o' j1 j2 j3;simp only[List.nil_append]at j2 ⊢;refine xkp ((Za.oent _ _ _ _ _ _).trans ((Za.tail _ _ _).trans (sb _))) ?_;refine xx ?_;refine YE (e:=139) (n:=l.length+1) j1 (by rw[List.length_append,Z3 YW];show l.length*4+4=(l.length+1)*4;omega) (by omega) j2 fun h' le sl=>?_;exact ZP (ZP (ZO (good h' _ le ⟨YW,by simpa using sl⟩)))
     ·have ff:=full eB q7;refine xx ?_;exact ZP (ZO ff)
    ·have:=bad (by rw[rr,decide_eq_false q6,Bool.and_false]);refine xx ?_;exact ZP (ZO this)
   ·have:=bad (by rw[rr,decide_eq_false q5,Bool.false_and]);refine xx ?_;exact ZP (ZO this)
  ·have:=bad (by simp [Zcy,q4]);refine xx ?_;exact ZP (ZO this)
 | false =>
  have rr:Zcy ⟨ac,me,am,false⟩=(decide (1≤am)&&decide (am≤4611686018427387904)):=by simp [Zcy,q1,q2]
  by_cases q5:1≤am
  ·by_cases q6:am≤4611686018427387904
   ·have eB:Zcy ⟨ac,me,am,false⟩=true:=by rw[rr,decide_eq_true q5,decide_eq_true q6];rfl
    by_cases q7:l.length<256
    ·have good:=tail eB q7;clear bad tail full rr;refine xx ?_;have sb:∀x:Zo,Za (x::L) h [x] h:=fun x=>Za.mem List.mem_cons_self;refine Yr (.tk 0 (.tkl 2 (.o1 1 (.o1 3 (.o1 4 (.tk 5 (.tk 6 (.fin))) (.nil)) (.nil)) (.o1 3 (.o1 1 (.o1 4 (.tk 5 (.tk 6 (.fin))) (.nil)) (.nil)) (.nil))))) (by kernel_rfl) (by kernel_rfl) _ (sb _) ?_;refine xx ?_;refine YF ?_ ?_
     ·refine xx ?_;refine G0 _ hv0 hl fun o k1 k2=>?_;refine xkp ((Za.oent _ _ _ _ _ _).trans (sb _)) ?_;refine xx ?_;refine Z6 fun b2 nb2 zb2=>?_;(try simp only[ZU]at nb2);refine xkp ((Za.tail _ _ _).trans ((Za.oent _ _ _ _ _ _).trans (sb _))) ?_;refine xx ?_;refine Z8 (t:=33) (e:=139) (sz:=4) (bytes:=32) (by kernel_rfl) JB rfl rfl rfl rfl (by decide) [_] _ o l.length (l.flatMap UY) k1 (Z3 YW l) (Src.own (b:=b2) List.mem_cons_self) (m:=1) (news:=UY ⟨ac,me,am,false⟩) (by rfl) (JV ⟨ac,me,am,false⟩) (by simp [maxLen];omega) (by omega) ?_;intro o' j1 j2 j3;simp only[List.cons_append,List.nil_append]at j2 ⊢;refine xkp ((Za.tail _ _ _).trans ((Za.oent _ _ _ _ _ _).trans (sb _))) ?_;refine xx ?_;refine ZP (YE (e:=139) (n:=l.length+1) j1 (by rw[List.length_append,Z3 YW];show l.length*4+4=(l.length+1)*4;omega) (by omega) (Z2 j2) fun h' le sl=>?_);exact ZP (ZO (good h' _ le ⟨YW,by simpa using sl⟩))
     ·refine xx ?_;refine Z6 fun b2 nb2 zb2=>?_;(try simp only[ZU]at nb2);refine xkp ((Za.tail _ _ _).trans (sb _)) ?_;refine xx ?_;refine G0 _ hv0 hl fun o k1 k2=>?_;refine xkp ((Za.oent _ _ _ _ _ _).trans ((Za.tail _ _ _).trans (sb _))) ?_;refine xx ?_;refine Z8 (t:=33) (e:=139) (sz:=4) (bytes:=32) (by kernel_rfl) JB rfl rfl rfl rfl (by decide) [] _ o l.length (l.flatMap UY) k1 (Z3 YW l) (Src.own (b:=b2) (Y4 List.mem_cons_self)) (m:=1) (news:=UY ⟨ac,me,am,false⟩) (by rfl) (JV ⟨ac,me,am,false⟩) (by simp [maxLen];omega) (by omega) ?_;intro o' j1 j2 j3;simp only[List.nil_append]at j2 ⊢;refine xkp ((Za.oent _ _ _ _ _ _).trans ((Za.tail _ _ _).trans (sb _))) ?_;refine xx ?_;refine YE (e:=139) (n:=l.length+1) j1 (by rw[List.length_append,Z3 YW];show l.length*4+4=(l.length+1)*4;omega) (by omega) j2 fun h' le sl=>?_;exact ZP (ZP (ZO (good h' _ le ⟨YW,by simpa using sl⟩)))
    ·have ff:=full eB q7;refine xx ?_;exact ZP (ZO ff)
   ·have:=bad (by rw[rr,decide_eq_false q6,Bool.and_false]);refine xx ?_;exact ZP (ZO this)
  ·have:=bad (by rw[rr,decide_eq_false q5,Bool.false_and]);refine xx ?_;exact ZP (ZO this)
end Go.X
