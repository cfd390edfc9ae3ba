/- Lemmas and contracts. Conditions: as each says. -/
import Derived.Test.YtllhopbilpdpkaaGreatQ25
import Derived.Test.YtllhopbilpdpkaaGreatQ26
set_option linter.unusedVariables false
set_option linter.unusedSimpArgs false
set_option maxHeartbeats 12800000
set_option maxRecDepth 20000
namespace Go.X
open Go.RowKit Go.Proofs Go.Bl Go.Proofs.Tryz
section
variable {P:Program}
theorem Zuh {t ty e sz:Nat}{ti:TI}(ht:P.underlying t=some (.slice e))(hti:tI P e=some ti)(hz1:ti.size=sz){L:Own}{h:PH}{K:PK}{b o n cap m c:Nat}{a:Addr}{news:List Value}
  (hroom:n+m<=cap) (hs:∀W,Zo L h W->∀(j:Nat) u,news[j]?=some u->W.cell? (a.add j)=some u) (hnl:news.length=m*sz) (hk:Zci L b (o+n*sz) news fun L'=>K (.slice (some ⟨b,o,none⟩) (n+m) cap) L' h) :
  Zii P (Builtin.append_ #[t,t] ty #[.slice (some ⟨b,o,none⟩) n cap,.slice (some a) m c]) L h K:=by
 intro W hg;obtain⟨L',W',hK,hrun,hgd,hkp,hmm,hbm⟩:=VP (P:=P) hg hk;obtain⟨i,d,zv,g1,g2,g3,rfl⟩:=Vb hti;simp only at hz1;refine⟨.slice (some ⟨b,o,none⟩) (n+m) cap,L',h,W',?_,hK,⟨hgd,Zv.mono hkp (fun x hx=>zH),fun x hx=>Or.inl zM⟩⟩;have hfc:=run_firstCells_some (P:=P) W i.size m a m c news (by rw[hnl,hz1]) (hs W hg);rw[hz1]at hfc;simp [Builtin.append_,run_underlying ht,sizeOf,typeInfo,g1,hz1,Builtin.lenOf,hroom,hfc,Addr.add_lit,hrun]
theorem Ymq {T e sz by':Nat}(hT:tSh P T = .sl e sz by')(a:Option Addr)(n c:Nat)(k l q:IntKind)(i j m:Int)(h0:0<=i)(h1:i<=j)(h2:j<=m)(h3:m<=(c:Int))(K:Value->Prop):xSl P T (.slice a n c) (some (.int k i)) (some (.int l j)) (some (.int q m)) K=K (.slice (Gk a m.toNat i.toNat sz) (j.toNat-i.toNat) (m.toNat-i.toNat)):=by
 unfold tSh at hT;split at hT
 ·rename_i e' hu;split at hT
  ·rename_i ii hi;refine Yw (fun W=>?_) K;injection hT with hT1 hT2 hT3
   subst hT2;have h4:0<=j:=qf;have h5:0<=m:=qf;have h6:i<=(j.toNat:Int):=qf;have h7:j<=(m.toNat:Int):=qf;have h8:m.toNat<=c:=qf;have h9:j<=max m 0:=qf;have h10:i<=max j 0:=qf;simp [Instr.sliceAt,Instr.slice,Instr.sliceBounds,Instr.sliceBound,asIntOf,underlying,hu,YW hi,h0,h1,h2,h3,h4,h5,h6,h7,h8,h9,h10,Gk]
   try (intro hh;omega)
  ·cases hT
 ·split at hT<;>cases hT
 ·cases hT
end
variable {L:Own} {h:PH} {K:PK}
theorem Yqu:tSh prog 27 = .sl 3 1 8:=by kernel_rfl
theorem Src.part {b t m c cap i:Nat}{xs:List Value}(hm:(⟨b,t,xs,cap⟩:Zn)∈L)(hT:t≠4294967295:=by first|decide|omega):Src L h (.slice (some ⟨b,i,none⟩) m c) m ((xs.drop i).take m) :=
 Or.inr ⟨_,_,rfl,fun W hg j u hj=>GC hg hm hT (by
  rw[List.getElem?_take]at hj;split at hj
  ·rwa [List.getElem?_drop]at hj
  ·cases hj)⟩
theorem fI_at {xs:List Int}{x:Int}{k:Nat}(hk:k<xs.length)(h1:at0 xs k=x)(h2:∀j,j<k->at0 xs j≠x):fI xs x=k:=by
 have:=Vf (q:=fun k=>decide (at0 xs k=x)) (m:=xs.length) (k:=0) (r:=k) (Nat.zero_le _) qf (fun j _ hj=>by simpa using h2 j hj) (fun _=>qO);rw[fI,this,if_neg qf]
theorem fI_no {xs:List Int}{x:Int}(h2:∀j,j<xs.length->at0 xs j≠x):fI xs x = -1:=by
 have:=(Zre xs x).1;have n:¬x∈xs:=fun hx=>by
  obtain⟨j,hj,e⟩:=List.mem_iff_getElem.1 hx;exact h2 j hj (by rw[<- Ys hj,e])
 unfold fI at *;split
 ·rfl
 ·rename_i c;rw[if_neg c]at this;exact absurd (this qf) n
theorem Zro {xs:List Int}{b cap:Nat}(x:Int)(hl:xs.length<=1000):Zb prog 307 [.slice (some ⟨b,0,none⟩) xs.length cap,.int .i64 x] [⟨b,3,xs.map (.int .i64),cap⟩] h fun v L' h'=>v = .int .i64 (fI xs x)/\L'=[⟨b,3,xs.map (.int .i64),cap⟩]/\h'=h:=by
 refine eH func307 fun ap nd=>?_;have hn:h b=noC:=ap.1;clear ap nd;refine xx ?_;refine Y1 (0:Nat) (fun k=>k<=xs.length/\∀j,j<k->at0 xs j≠x) (fun k=>[(8,.int .i64 k),(7,.int .i64 xs.length),(0,.slice (some ⟨b,0,none⟩) xs.length cap),(1,.int .i64 x)]) (fun k=>xs.length-k) ?_ ?_ ?_
 ·exact⟨Nat.zero_le _,fun j hj=>qf⟩
 ·simp [Ent,List.lookup,YT]
 rintro k ⟨k1,k2⟩;by_cases c1:k<xs.length
 ·by_cases c2:x=at0 xs k
  ·have e:=fI_at c1 c2.symm k2;refine fJ ?_;exact ZP ⟨by rw[e],rfl,rfl⟩
  ·refine fJ ?_;refine⟨k+1,⟨qf,fun j hj=>?_⟩,qf,qi,Za.refl _ _⟩;by_cases e:j=k
   ·subst e;exact fun e=>c2 e.symm
   ·exact k2 j qf
 ·have e:=fI_no (xs:=xs) (x:=x) fun j hj=>k2 j qf;refine xx ?_;exact ZP ⟨by rw[e],rfl,rfl⟩
theorem Ztn {xs:List Int}(o:Option (Nat×Nat))(ho:okO o xs.length)(hl:xs.length<=1000)(x:Int)(hx : -9223372036854775808<=x/\x<=9223372036854775807)(hm:∀b c,o=some (b,c)->(⟨b,3,xs.map (.int .i64),c⟩:Zn)∈L)(hk:K (.int .i64 (fI xs x)) L h) :
  Zb prog 307 [ovs o xs.length,.int .i64 x] L h K:=by
 cases o with
 | none =>
  have h0:xs.length=0:=ho;have h1:=List.length_eq_zero_iff.1 h0;subst h1;refine Zko (zs:=[]) _ x (Y7 h .i64) hx fun i i1 i2 i3=>?_;have:i = -1:=by
   have:¬ 0<=i:=fun hi=>by have:=i3.1 hi;cases this
   omega
  rw[this];exact hk
 | some p=>exact Zb.frame1 (hm p.1 p.2 rfl) (Zro x hl) hk
def Zop (xs:List Int)(i j:Nat):List Int:=xs.take i++xs.drop j
theorem Yfl {xs:List Int}{i j:Nat}(hij:i<=j)(hj:j<=xs.length):(Zop xs i j).length=xs.length-(j-i):=by simp [Zop];omega
theorem Zpn {xs:List Int}(o:Option (Nat×Nat))(ho:okO o xs.length)(hl:xs.length<=1000)(i j:Nat)(hij:i<=j)(hj:j<=xs.length)
  (hk:K (ovs o (Zop xs i j).length) (oent 3 1 o ((Zop xs i j).map (.int .i64)) L) h) :
  Zb prog 360 [ovs o xs.length,.int .i64 i,.int .i64 j] (oent 3 1 o (xs.map (.int .i64)) L) h K:=by
 have hd:=Yfl hij hj
 cases o with
 | none =>
  have h0:xs.length=0:=ho;have h1:=List.length_eq_zero_iff.1 h0;subst h1;have i0:i=0:=by simp at hj;omega
  have j0:j=0:=zC;subst i0;subst j0;simp only[ovs,oent]at hk ⊢;refine ed func360 ?_;refine fK ?_;exact ZP hk
 | some p =>
  obtain⟨b,cap⟩:=p;have hcap:xs.length<=cap:=ho.1;simp only[Yl,Z7,Nat.mul_one]at hk ⊢;refine eH func360 fun ap nd=>?_;have hn:h b=noC:=ap.1;clear ap nd;by_cases c1:i=j
  ·subst c1;have e:Zop xs i i=xs:=List.take_append_drop i xs;rw[e]at hk;refine fK ?_;exact ZP hk
  ·refine fK ?_;refine Z4 (.tk 0 (.tk 1 (.tk 2 (.tk 3 (.tk 4 (.tk 5 (.o1 6 (.tk 7 (.fin)) (.nil)))))))) qg qg L (Za.tail _ _ _) ?_;simp -dsimp -implicitDefEqProofs (disch:=first|exact dD|fail) [go_sem,Zaz Yqu];obtain⟨q,hq,hqj⟩:∃q,Gk (some ⟨b,0,none⟩) cap j 1=some ⟨b,q,none⟩/\(j<xs.length->q=j):=by
    unfold Gk;split
    ·exact⟨0,rfl,fun x=>qf⟩
    ·exact⟨j,by simp [Addr.add];omega,fun _=>rfl⟩
   rw[hq];obtain⟨n,hn2⟩:∃n,n=xs.length:=⟨_,rfl⟩
   refine Zuh (e:=3) (sz:=1) qg V6 rfl (n:=i) (m:=xs.length-j) (news:=(xs.drop j).map (Value.int .i64)) qf (fun W hg m u hu=>?_) qj ?_
   ·by_cases cj:j<xs.length
    ·rw[hqj cj];refine GC hg (b:=b) (o:=j) List.mem_cons_self qh ?_
     rwa [List.map_drop,List.getElem?_drop]at hu
    ·rw[List.drop_eq_nil_of_le qf]at hu
     cases hu
   refine xx ?_
   refine⟨qf,fun z hz=>by
    rw[<- List.map_drop]at hz;obtain⟨w,_,rfl⟩:=List.mem_map.1 hz
    rfl,?_⟩
   refine xkp (Za.tail _ _ _) ?_;have hcut:Gk (some ⟨b,0,none⟩) cap (i+(xs.length-j)) 1=some ⟨b,i+(xs.length-j),none⟩:=by
    unfold Gk;rw[if_neg qf];simp [Addr.add]
    try (intro e;omega)
   have e4:((i:Int)+((xs.length-j:Nat):Int)).toNat=i+(xs.length-j):=qf;simp -dsimp -implicitDefEqProofs (disch:=first|exact dD|fail) [go_sem,Zhc Yqu,e4,hcut];refine Yis qg V6 rfl qf ?_;refine xx ?_;have hwl:(wr (xs.map (Value.int .i64)) i ((xs.drop j).map (Value.int .i64)))=(xs.take i++xs.drop j++xs.drop (i+(xs.length-j))).map (Value.int .i64):=by
    rw[J7 _ _ _ qF];simp [List.map_drop,List.map_take]
   rw[<- List.map_drop,hwl];refine⟨qF,?_⟩;have e3:=GS b 3 cap (i+(xs.length-j)) (wr ((xs.take i++xs.drop j++xs.drop (i+(xs.length-j))).map (Value.int .i64)) (i+(xs.length-j)) (List.replicate (xs.length-(i+(xs.length-j))) (Value.int .i64 0))) L h;have e2:(wr ((xs.take i++xs.drop j++xs.drop (i+(xs.length-j))).map (Value.int .i64)) (i+(xs.length-j)) (List.replicate (xs.length-(i+(xs.length-j))) (Value.int .i64 0))).take (i+(xs.length-j))=(Zop xs i j).map (.int .i64):=by
    have hL:(Zop xs i j).length=i+(xs.length-j):=qf;rw[J7 _ _ _ qF,List.append_assoc,List.take_append_of_le_length qF,List.take_take,Nat.min_self,<- List.map_take]
    congr 1
    rw[show xs.take i++xs.drop j=Zop xs i j from rfl,List.take_append_of_le_length qf,List.take_of_length_le qf]
   rw[e2]at e3;rw[show (Zop xs i j).length=i+(xs.length-j) from qf]at hk;exact⟨_,_,e3,hk⟩
abbrev lnB (bl:Nat)(o:Option (Nat×Nat))(n:Nat):Zn:=⟨bl,372,[ovs o n],1⟩
abbrev lnL (o:Option (Nat×Nat))(xs:List Int)(L:Own):Own:=oent 3 1 o (xs.map (.int .i64)) L
theorem Zwn {xs:List Int}{bl:Nat}(o:Option (Nat×Nat))(ho:okO o xs.length)(hl:xs.length<=1000)(x:Int)(hx : -9223372036854775808<=x/\x<=9223372036854775807)
  (hk:K (.int .i64 (fI xs x)) (lnB bl o xs.length::lnL o xs L) h):Zb prog 359 [.pointer (some ⟨bl,0,none⟩),.int .i64 x] (lnB bl o xs.length::lnL o xs L) h K:=by
 refine eH func359 fun ap nd=>?_;have hb:h bl=noC:=ap.1;clear ap nd;refine xx ?_;refine Ztn o ho hl x hx (fun b c e=>?_) ?_
 ·subst e;simp [oent]
 refine xx ?_;exact ZP hk
theorem Ysu (b cap i n:Nat)(hi:i<=n)(hc:n<=cap):∃q,Gk (some ⟨b,0,none⟩) cap i 1=some ⟨b,q,none⟩/\(i<n->q=i):=by
 unfold Gk;split
 ·exact⟨0,rfl,fun x=>qf⟩
 ·exact⟨i,by simp [Addr.add];try omega,fun _=>rfl⟩
theorem Ydc {xs:List Int}{bl:Nat}(o:Option (Nat×Nat))(ho:okO o xs.length)(hl:xs.length<=1000)(i j:Nat)(hij:i<=j)(hj:j<=xs.length)(hr:∀z∈xs,-9223372036854775808<=z/\z<=9223372036854775807)
  (hk:∀h' r,PH.le h h'->Ints h' .i64 r ((xs.drop i).take (j-i))->K r (lnB bl o (Zop xs i j).length::lnL o (Zop xs i j) L) h') :
  Zb prog 306 [.pointer (some ⟨bl,0,none⟩),.int .i64 i,.int .i64 j] (lnB bl o xs.length::lnL o xs L) h K:=by
 cases o with
 | none =>
  have h0:xs.length=0:=ho;have h1:=List.length_eq_zero_iff.1 h0;subst h1;have i0:i=0:=by simp at hj;omega
  have j0:j=0:=zC;subst i0;subst j0;have hk:=hk h (.slice none 0 0) (PH.le_refl h) (Y7 h .i64);simp only[ovs,oent,lnB,lnL]at hk ⊢;refine eH func306 fun ap nd=>?_;have hb:h bl=noC:=ap.1;clear ap nd;simp -dsimp -implicitDefEqProofs (disch:=first|exact dD|fail) [go_sem,Zhc Yqu,Gk];refine ZZ (t:=27) (e:=3) (sz:=1) (bytes:=8) (z:=[.int .i64 0]) qg V6 rfl rfl rfl rfl qh [] _ none 0 [] rfl rfl (Or.inl ⟨rfl,rfl,rfl⟩) (m:=0) (news:=[]) rfl (fun u hu=>by cases hu) qh qf ?_;intro o1 j1 j2 j3;obtain rfl:o1=none:=j3.2 ⟨rfl,rfl⟩;simp only[ovs,oent,List.nil_append];refine xx ?_;have key:∀ {K':PK} {L':Own},K' (.slice none 0 0) L' h->Zb prog 360 [.slice none 0 0,.int .i64 0,.int .i64 0] L' h K':=fun {K' L'} hK =>
   Zpn (xs:=[]) none ho hl 0 0 (Nat.le_refl _) (Nat.le_refl _) hK
  refine key ?_;refine xx ?_;exact ZP hk
 | some p =>
  obtain⟨b,cap⟩:=p;have hcap:xs.length<=cap:=ho.1;simp only[Yl,Z7,Nat.mul_one,lnB,lnL]at hk ⊢;refine eH func306 fun ap nd=>?_;have hb:h bl=noC:=ap.1;have hbb:bl≠b:=fun e=>nd.1.1 e.symm;clear ap nd;simp -dsimp -implicitDefEqProofs (disch:=first|exact dD|fail) [go_sem,Zhc Yqu];obtain⟨q,hq,hqi⟩:=Ysu b cap i xs.length qf hcap;rw[hq];have hd:(xs.drop q).take (j-i)=(xs.drop i).take (j-i):=by
   by_cases c:i<xs.length
   ·rw[hqi c]
   ·rw[show j-i=0 from qf];simp
  refine ZZ (t:=27) (e:=3) (sz:=1) (bytes:=8) (z:=[.int .i64 0]) qg V6 rfl rfl rfl rfl qh [] _ none 0 [] rfl rfl (Src.part (b:=b) (t:=3) (i:=q) (xs:=xs.map (.int .i64)) (List.mem_cons_of_mem _ List.mem_cons_self)) (m:=j-i) qF (fun u hu=>?_) qm qf ?_
  ·have:=List.mem_of_mem_drop (List.mem_of_mem_take hu);obtain⟨w,_,rfl⟩:=List.mem_map.1 this
   rfl
  intro o1 j1 j2 j3;rw[<- List.map_drop,<- List.map_take,hd];simp only[List.nil_append,Nat.zero_add]at j1 j2 ⊢;have m1:apB o1 bl:=j2.head;refine xM ?_;refine WT (n:=j-i) j1 qF qf j2 fun h1 le1 sl=>?_;refine Zcz ?_;have key:∀ {K':PK} {L':Own},K' (.slice (some ⟨b,0,none⟩) (Zop xs i j).length cap) (⟨b,3,(Zop xs i j).map (.int .i64),cap⟩::L') h1->Zb prog 360 [.slice (some ⟨b,0,none⟩) xs.length cap,.int .i64 i,.int .i64 j] (⟨b,3,xs.map (.int .i64),cap⟩::L') h1 K':=fun {K' L'} hK=>by
   have:=Zpn (L:=L') (h:=h1) (K:=K') (some (b,cap)) ho hl i j hij hj (by simpa only[Yl,Z7,Nat.mul_one] using hK)
   simpa only[Yl,Z7,Nat.mul_one] using this
  refine Zb.ap (key fun ap=>?_);simp only[Ap]at ap;obtain⟨ab,abl,_⟩:=ap;have il:Ints h1 .i64 (ovs o1 (j-i)) ((xs.drop i).take (j-i)):=by
   refine⟨?_,fun z hz=>hr z (List.mem_of_mem_drop (List.mem_of_mem_take hz))⟩;have:((xs.drop i).take (j-i)).length=j-i:=by simp;omega
   rw[this,List.map_take,List.map_drop];exact sl
  obtain⟨x1,y1,e1,_⟩:=Z5 j1;rw[e1]at il ⊢;refine xx ?_;exact Ydd (List.Perm.swap _ _ _) (ZP (hk h1 _ le1 il))
theorem Ygt {xs:List Int}{bl:Nat}(o:Option (Nat×Nat))(ho:okO o xs.length)(hl:xs.length<=1000)(m:Int)(hm:0<=m/\m<=9223372036854775807)(hr:∀z∈xs,-9223372036854775808<=z/\z<=9223372036854775807)
  (hk:∀h' r,PH.le h h'->Ints h' .i64 r (xs.take m.toNat)->K r (lnB bl o (xs.drop m.toNat).length::lnL o (xs.drop m.toNat) L) h') :
  Zb prog 202 [.pointer (some ⟨bl,0,none⟩),.int .i64 m] (lnB bl o xs.length::lnL o xs L) h K:=by
 obtain⟨a,c,ea,hac⟩:=Z5 ho;have e:max 0 (min m xs.length)=((min m.toNat xs.length:Nat):Int):=qf;have e2:Zop xs 0 (min m.toNat xs.length)=xs.drop m.toNat:=by
  simp only[Zop,List.take_zero,List.nil_append];by_cases c:m.toNat<=xs.length
  ·rw[Nat.min_eq_left c]
  ·rw[Nat.min_eq_right qf,List.drop_length,List.drop_eq_nil_of_le qf]
 have e3:(xs.drop 0).take (min m.toNat xs.length-0)=xs.take m.toNat:=by
  rw[List.drop_zero,Nat.sub_zero];by_cases c:m.toNat<=xs.length
  ·rw[Nat.min_eq_left c]
  ·rw[Nat.min_eq_right qf,List.take_length,List.take_of_length_le qf]
 refine eH func202 fun ap nd=>?_;have hb:h bl=noC:=ap.1;clear ap nd;refine xx ?_;refine xany (.tk 0 (.tk 1 (.tk 2 (.tk 3 (.tk 4 (.tk 5 (.tk 6 (.tk 7 (.o1 8 (.tk 9 (.o1 10 (.o1 11 (.o1 12 (.tk 13 (.fin)) (.nil)) (.nil)) (.nil))) (.nil)))))))))) qg qg ?_;refine xx ?_;rw[ea];simp -dsimp -implicitDefEqProofs (disch:=first|exact dD|fail) [go_sem,W5,e];rw[<- ea];refine Ydc o ho hl 0 (min m.toNat xs.length) qf qf hr fun h1 r1 le1 i1=>?_;rw[e3]at i1;rw[e2];obtain⟨ra,rc,rfl,_⟩:=i1.open;refine xx ?_;have hk:=hk h1 _ le1 i1;rw[List.length_drop,List.length_take]at hk;exact ZP hk
theorem Zyh {xs:List Int}{bl:Nat}(o:Option (Nat×Nat))(ho:okO o xs.length)(hl:xs.length<256)(x:Int)(hx:0<=x/\x<=9223372036854775807)(hn:¬x∈xs)
  (hk:∀o',okO o' (xs++[x]).length->K (.int .i64 0) (lnB bl o' (xs++[x]).length::lnL o' (xs++[x]) L) h) :
  Zb prog 304 [.pointer (some ⟨bl,0,none⟩),.int .i64 x] (lnB bl o xs.length::lnL o xs L) h K:=by
 obtain⟨a,c,ea,hac⟩:=Z5 ho;have hf:fI xs x<0:=Int.not_le.1 fun c=>hn ((Zre xs x).1 c);refine eH func304 fun ap nd=>?_;have hb:h bl=noC:=ap.1;have hbo:apB o bl:=by
  cases o with
  | none=>trivial
  | some p=>exact nd.1.1
 clear ap nd;refine xx ?_;refine Zwn o ho qf x qf ?_;refine xx ?_;rw[ea];refine xx ?_;refine ZY fun b1 nb1 zb1=>?_;(try simp only[ZS]at nb1);refine xx ?_;rw[<- ea];refine ZZ (t:=27) (e:=3) (sz:=1) (bytes:=8) (z:=[.int .i64 0]) qg V6 rfl rfl rfl rfl qh [_,_] L o xs.length (xs.map (.int .i64)) ho qj (Src.own List.mem_cons_self) (m:=1) (news:=[.int .i64 x]) rfl (fun u hu=>qw) qm qf ?_;intro o' j1 j2 j3;have hk:=hk o' zf;simp only[lnB,lnL,List.length_append,List.length_singleton,List.map_append,List.map_cons,List.map_nil]at hk;refine xx ?_;exact ZO (ZP hk)
theorem Ydj {es:List (Int×Value)}{n:Int}{v:Value}(hn:Ycr es n=none):Ydz es n v=es++[(n,v)]:=by
 induction es with
 | nil=>rfl
 | cons e es ih =>
  simp only[Ycr]at hn;split at hn
  ·cases hn
  ·rename_i c;rw[Ydz,if_neg c,ih hn];rfl
def Ynm (xs:List Int):List (Int×Value):=xs.map fun x=>(x,.bool true)
theorem Yfr {xs:List Int}{x:Int}(hn:¬x∈xs):Ycr (Ynm xs) x=none:=by
 induction xs with
 | nil=>rfl
 | cons a l ih =>
  simp only[List.mem_cons,not_or]at hn;simp only[Ynm,List.map_cons,Ycr];rw[if_neg hn.1];exact ih hn.2
theorem mapB:prog.underlying 373=some (.map 3 4):=by kernel_rfl
theorem intB:prog.underlying 3=some (.int .i64):=by kernel_rfl
theorem zeroB (W:World):(zeroValue 4:Sem Value).run prog W = .ok (.bool false) W:=by kernel_rfl
theorem Yel {xs:List Int}(v:Value)(hv:Ints h .i64 v xs)(hl:xs.length<=256)(h0:∀z∈xs,0<=z)(hn:xs.Nodup)
  (hk:∀bl o,ZS bl L->h bl=noC->okO o xs.length->K (.tuple #[.pointer (some ⟨bl,0,none⟩),.int .i64 0]) (lnB bl o xs.length::lnL o xs L) h) :
  Zb prog 200 [v] L h K:=by
 have hnum:=hv.num;obtain⟨a,c,rfl,hcap,hln,_,hcs⟩:=hv.open;have hpos:∀k,k<xs.length->0<=at0 xs k:=fun k hk=>by rw[<- Ys hk];exact h0 _ (List.getElem_mem hk)
 refine eF func200 ?_;refine xx ?_;refine ZY fun bl n_bl h_bl=>?_;(try simp only[ZS]at n_bl);refine xx ?_;refine Y1 (0:Nat) (fun k=>k<=xs.length) (fun k=>[(17,.int .i64 k),(16,.int .i64 xs.length),(15,.slice a xs.length c),(0,.slice a xs.length c),(4,.pointer (some ⟨bl,0,none⟩))]) (fun k=>xs.length-k) ?_ ?_ ?_
 ·exact Nat.zero_le _
 ·simp [Ent,List.lookup,YT]
 intro k hk1;by_cases c1:k<xs.length
 ·have hp:=hpos k c1;refine xe ?_;exact⟨k+1,qf,qf,qi,Za.refl _ _⟩
 obtain rfl:k=xs.length:=qf;clear c1 hk1;refine xx ?_;refine Zyr fun bm n_bm h_bm=>?_;have hmb:bl≠bm:=n_bm.1;have hnot:∀k,k<xs.length->¬at0 xs k∈xs.take k:=fun k hk hm=>by
  obtain⟨j,hj,e⟩:=List.mem_iff_getElem.1 hm;simp only[List.length_take]at hj;rw[List.getElem_take,<- Ys hk]at e;exact(List.pairwise_iff_getElem.1 hn) j k qf hk qf e
 have htk:∀k,k<xs.length->xs.take (k+1)=xs.take k++[at0 xs k]:=fun k hk=>by rw[List.take_succ_eq_append_getElem hk,Ys hk]
 refine xx ?_;refine Yi (γ:=Nat) 0 (fun k=>k<=xs.length) (fun k=>[(27,.int .i64 k),(26,.int .i64 xs.length),(25,.slice a xs.length c),(0,.slice a xs.length c),(4,.pointer (some ⟨bl,0,none⟩)),(7,.map (some bm))])
  (fun k=>⟨bm,4294967295,Zsg .i64 (Ynm (xs.take k)),0⟩::⟨bl,372,[.slice none 0 0],1⟩::L) (fun _=>h) (fun k=>xs.length-k) ?_ ?_ ?_ ?_
 ·exact Nat.zero_le _
 ·simp [Ent,List.lookup]
 ·exact Za.refl _ _
 intro k hk1;by_cases c1:k<xs.length
 ·have hg:=Yfr (hnot k c1);refine xe ?_;refine Zyi mapB intB zeroB (Ynm (xs.take k)) List.mem_cons_self ?_;rw[hg];refine xx ?_;refine Yad mapB intB [] _ (Ynm (xs.take k)) ?_;rw[Ydj hg];refine xx ?_;refine⟨k+1,qf,qf,qi,?_⟩;rw[htk k c1];simp only[Ynm,List.map_append,List.map_cons,List.map_nil,List.nil_append];exact Za.refl _ _
 obtain rfl:k=xs.length:=qf;clear c1 hk1;refine xx ?_;refine Yi (γ:=Nat×Option (Nat×Nat)) (0,none) (fun s=>s.1<=xs.length/\okO s.2 s.1) (fun s=>[(39,.int .i64 s.1),(38,.int .i64 xs.length),(37,.slice a xs.length c),(4,.pointer (some ⟨bl,0,none⟩))])
  (fun s=>lnB bl s.2 s.1::lnL s.2 (xs.take s.1) L) (fun _=>h) (fun s=>xs.length-s.1) ?_ ?_ ?_ ?_
 ·exact⟨Nat.zero_le _,rfl⟩
 ·simp [Ent,List.lookup]
 ·exact Za.tail _ _ _
 rintro⟨k,o⟩ ⟨k1,k2⟩;simp only at k1 k2 ⊢;by_cases c1:k<xs.length
 ·have hp:=hpos k c1;have hq:=hnum k;have hlen:(xs.take k).length=k:=by rw[List.length_take];omega
  refine xe ?_;have key:∀ {K':PK},(∀o',okO o' (k+1)->K' (.int .i64 0) (lnB bl o' (k+1)::lnL o' (xs.take (k+1)) L) h)->Zb prog 304 [.pointer (some ⟨bl,0,none⟩),.int .i64 (at0 xs k)] (lnB bl o k::lnL o (xs.take k) L) h K':=fun {K'} hK=>by
   have:=Zyh (L:=L) (h:=h) (K:=K') (xs:=xs.take k) (bl:=bl) o (by rw[hlen];exact k2) qf (at0 xs k) qf (hnot k c1) fun o' h'=>by
    rw[<- htk k c1]at h' ⊢;have e:(xs.take (k+1)).length=k+1:=by rw[List.length_take];omega
    rw[e]at h' ⊢;exact hK o' h'
   rwa [hlen]at this
  refine key fun o' j1=>?_;refine xx ?_;exact⟨k+1,o',⟨qf,j1⟩,qf,qi,Za.refl _ _⟩
 ·obtain rfl:k=xs.length:=qf;rw[List.take_length];refine xx ?_;exact ZP (hk bl o n_bl h_bl k2)
end Go.X
