/- Lemmas and contracts. Conditions: as each says. -/
import Derived.Shelf.Spec.BitsCarry
import Derived.Test.YtllhopbilpdpkaaGreatQ16
set_option linter.unusedVariables false
set_option linter.unusedSimpArgs false
set_option maxHeartbeats 12800000
set_option maxRecDepth 20000
namespace Go.X
open Go.RowKit Go.Proofs Go.Bl Go.Proofs.Tryz
variable {L:Own} {h:PH} {K:PK}
theorem Zfu {e sz:Nat}(o:Option (Nat×Nat))(xs:List Value)(M:Own):oent e sz o xs M=oent e sz o xs []++M:=by
 cases o<;>rfl
theorem YH {e sz:Nat}{o o2:Option (Nat×Nat)}{xs:List Value}{M:Own}{h:PH}(ha:apO o (oent e sz o2 xs M) h):apO o M h:=by
 cases o with
 | none=>trivial
 | some p=>exact⟨Yx ha.1,ha.2⟩
theorem JM {e sz e2 sz2:Nat}{o1 o2:Option (Nat×Nat)}{cs1 cs2:List Value}{M:Own}{h:PH}(h1:apO o1 M h)(h2:apO o2 (oent e sz o1 cs1 []++M) h):apO o1 (oent e2 sz2 o2 cs2 M) h/\apO o2 M h:=by
 cases o1 with
 | none=>exact⟨trivial,h2⟩
 | some p =>
  cases o2 with
  | none=>exact⟨h1,trivial⟩
  | some q =>
   have:p.1≠q.1:=h2.1.1;exact⟨⟨⟨fun e=>this e.symm,h1.1⟩,h1.2⟩,⟨h2.1.2,h2.2⟩⟩
theorem Zob {xs:List Int}(v:Value)(hx:Ints h .u64 v xs)(hl:xs.length<=100000)(hk:∀o,okO o xs.length->apO o L h->K (ovs o xs.length) (oent 22 1 o (xs.map (.int .u64)) L) h):Zb prog 98 [v] L h K:=by
 have ox:=hx.open;obtain⟨a,ca,rfl,hna,hca,h0,hcx⟩:=ox;refine ed func98 ?_;refine xx ?_
 cases ha:a.isNone with
 | true =>
  have ha':a=none:=qP;subst ha';have hl0:xs.length=0:=by have:=h0 rfl;omega
  have hx':xs=[]:=List.eq_nil_of_length_eq_zero hl0;subst hx';refine xx ?_;exact ZP (hk none rfl trivial)
 | false =>
  refine xx ?_;refine ZY fun b1 nb1 zb1=>?_;(try simp only[ZS]at nb1);refine xx ?_;refine ZZ (t:=25) (e:=22) (sz:=1) (bytes:=8) (z:=[.int .u64 0]) qg Vw rfl rfl rfl rfl qh [] L (some (b1,0)) 0 [] ⟨Nat.le_refl _,Nat.zero_le _⟩ rfl (Src.known hx.1) qj (Vr _ _) qm qf ?_;intro o' j1 j2 j3;simp only[Nat.zero_add,List.nil_append]at j1 j2 ⊢;refine xx ?_;exact ZP (hk o' j1 j2)
theorem G0 (p:Ze)(ok:Zj p)(b:Int)(hb:0<=b/\b<=18446744073709551615)(hk:K (.int .u64 (if Yo p then Wi p b else 0)) L h):Zb prog 228 [WS p,.int .u64 b] L h K:=by
 refine ed func228 ?_;refine xx ?_;refine ZY fun b1 nb1 zb1=>?_;(try simp only[ZS]at nb1);refine xx ?_;refine JG p ok ?_;refine xx ?_;refine ZY fun b2 nb2 zb2=>?_;(try simp only[ZS]at nb2);refine xx ?_
 cases hr:Yo p with
 | false =>
  rw[hr]at hk;refine xx ?_;exact ZO (ZO (ZP hk))
 | true =>
  rw[hr]at hk;refine xx ?_;refine Ziq p b (Ul hr) hb ?_;refine xx ?_;exact ZO (ZO (ZP hk))
structure ZE where
 own:Int
 bal:Int
def WQ:ZE:=⟨0,0⟩
def Ywi (f:ZE):List Value:=[.int .i64 f.own,.int .u64 f.bal]
theorem Ydh (f:ZE):(Ywi f).length=2:=rfl
structure Yyu (f:ZE):Prop where
 o : -9223372036854775808<=f.own/\f.own<=9223372036854775807
 b:0<=f.bal/\f.bal<=18446744073709551615
structure ZA where
 par:Ze
 most:Int
 ag:List Int
 ay:List ZE
abbrev genC (g:ZA)(pv fv:Value):List Value:=[.int .u64 g.par.inc,.int .u64 g.par.aF,.int .u64 g.par.floor,.int .u64 g.par.cap,.int .u64 g.par.up,.int .u64 g.par.down,.int .u64 g.par.aP,.int .u64 g.par.aQ,.int .u64 g.par.aO,.int .u64 g.par.aH,.int .u64 g.par.recover,.int .u64 g.par.aA,.int .u64 g.par.rate,.int .u64 g.par.aX,.int .i64 g.par.delay,.int .i64 g.par.ak,.int .i64 g.par.aS,.int .i64 g.par.aJ,.int .i64 g.par.aG,.int .i64 g.par.aK,.int .i64 g.par.wait,.int .i64 g.par.aW,.int .i64 g.par.aN,.int .i64 g.par.aI,.int .u64 g.most,pv,fv]
abbrev genV (g:ZA)(pv fv:Value):Value := .agg #[.int .u64 g.par.inc,.int .u64 g.par.aF,.int .u64 g.par.floor,.int .u64 g.par.cap,.int .u64 g.par.up,.int .u64 g.par.down,.int .u64 g.par.aP,.int .u64 g.par.aQ,.int .u64 g.par.aO,.int .u64 g.par.aH,.int .u64 g.par.recover,.int .u64 g.par.aA,.int .u64 g.par.rate,.int .u64 g.par.aX,.int .i64 g.par.delay,.int .i64 g.par.ak,.int .i64 g.par.aS,.int .i64 g.par.aJ,.int .i64 g.par.aG,.int .i64 g.par.aK,.int .i64 g.par.wait,.int .i64 g.par.aW,.int .i64 g.par.aN,.int .i64 g.par.aI,.int .u64 g.most,pv,fv]
structure ZH (h:PH)(pv fv:Value)(g:ZA):Prop where
 ok:Zj g.par
 m:0<=g.most/\g.most<=18446744073709551615
 p:Ints h .u64 pv g.ag
 f:Zd Ywi 2 h fv g.ay
 fo:∀x∈g.ay,Yyu x
theorem ZH.up {h h':PH}(le:PH.le h h'){pv fv:Value}{g:ZA}(hg:ZH h pv fv g):ZH h' pv fv g:=⟨hg.ok,hg.m,hg.p.up le,hg.f.up le,hg.fo⟩
def Ycn (g:ZA)(f:ZE):Bool:=wi f.own 0 ((g.ag.length:Int)-1)&&decide (g.par.floor<f.bal)&&decide (f.bal<=g.par.cap)
def Zvw (p:Ze)(f:ZE):Zc:=⟨f.bal,Wi p f.bal,0,0,f.own,2⟩
def Ue (g:ZA):List Int:=g.ag++g.ay.map ZE.bal
def Zrl (g:ZA):Bool:=Yo g.par&&decide (g.most<=4611686018427387904)&&wi g.ag.length 1 64&&decide (g.ay.length<=128)&&g.ay.all (Ycn g)&&decide (tot (Ue g)<=g.most)
def Yia (g:ZA):Zg:=⟨g.par,g.most,tot (Ue g),0,0,0,0,0,false,g.ag,g.ay.map (Zvw g.par),[],[],[],[],[],List.replicate 16 0,[]⟩
def Yha (g:ZA):Zg:=if Zrl g then Yia g else JB
theorem Zoj (p:Ze)(ok:Zj p)(hr:Yo p=true)(f:ZE)(fo:Yyu f)(hk:K (Zeu (Zvw p f)) L h):Zb prog 152 [WS p,.agg #[.int .i64 f.own,.int .u64 f.bal]] L h K:=by
 have fb:=fo.b;refine ed func152 ?_;refine xx ?_;refine ZY fun b1 nb1 zb1=>?_;(try simp only[ZS]at nb1);refine xx ?_;refine ZY fun b2 nb2 zb2=>?_;(try simp only[ZS]at nb2);refine xx ?_;refine ZY fun b3 nb3 zb3=>?_;(try simp only[ZS]at nb3);refine xx ?_;refine Z4 (.tk 0 (.tk 3 (.tk 7 (.tkl 1 (.tkl 2 (.tkl 4 (.tkl 8 (.o1 5 (.tk 6 (.tk 9 (.o2 10 (.fin) (.nil)))) (.nil))))))))) qg qg _ (Za.refl _ _) ?_;refine xx ?_;refine G0 p ok f.bal fb ?_;rw[hr];refine xx ?_;exact ZO (ZO (ZO (ZP hk)))
theorem Zkf (hk:∀h' v,PH.le h h'->Ints h' .u8 v (List.replicate 16 0)->K v L h'):Zb prog 154 [] L h K:=by
 refine ed func154 ?_;refine xx ?_;refine Zrf _ qh qh ?_;rw[show Zjw 128=16 from qh];refine xx ?_;refine JH (e:=5) (z:=.int .u8 0) qg Ypn rfl rfl .i64 .i64 16 qh qh qh ?_;refine ZY fun b1 nb1 zb1=>?_;(try simp only[ZS]at nb1);refine xx ?_;exact⟨L,_,WJ b1 _ _ _ [] _ h qh,hk _ _ (GO zb1 _) (G9 (n:=16) (WE (o:=some (b1,16)) ⟨Nat.le_refl _,zX⟩ rfl qh))⟩
def Zvf (g:ZA)(k:Nat):List Value:=((g.ay.take k).map (Zvw g.par)).flatMap YD
def Zvd (g:ZA)(k:Nat):List Value:=(g.ag++(g.ay.take k).map ZE.bal).map (.int .u64)
theorem Ygs {g:ZA}{k:Nat}(hk:k<=g.ay.length):(Zvf g k).length=k*6:=by
 rw[Zvf,Z1 Z8];simp [hk]
theorem Yef {g:ZA}{k:Nat}(hk:k<=g.ay.length):(Zvd g k).length=(g.ag.length+k)*1:=by simp [Zvd,hk]
theorem Zzp {g:ZA}{k:Nat}(hk:k<g.ay.length):Zvf g (k+1)=Zvf g k++YD (Zvw g.par (gr WQ g.ay k)):=by
 rw[Zvf,List.take_succ_eq_append_getElem hk,Ye hk,Zvf,List.map_append,List.flatMap_append];simp only[List.map_cons,List.map_nil,List.flatMap_cons,List.flatMap_nil,List.append_nil]
theorem Zvy {g:ZA}{k:Nat}(hk:k<g.ay.length):Zvd g (k+1)=Zvd g k++[.int .u64 (gr WQ g.ay k).bal]:=by
 rw[Zvd,List.take_succ_eq_append_getElem hk,Ye hk,Zvd,List.map_append (f:=ZE.bal),<- List.append_assoc,List.map_append]
 rfl
theorem Ji {p:Ze}(h1:1<=p.inc)(hp:Zj p){b:Int}(hb:0<=b/\b<=18446744073709551615):0<=Wi p b/\Wi p b<=18446744073709551615:=by
 have hm:=hp.w p.aF qB;have h2:=Int.emod_nonneg b (show p.inc≠0 from qf);have h3:=Int.emod_lt_of_pos b (show 0<p.inc from qf);have h4:b%p.inc<=b:=by
  have h5:=Int.ediv_nonneg hb.1 (show 0<=p.inc from qf);have h6:=Int.mul_nonneg (show 0<=p.inc from qf) h5;rw[Int.emod_def];omega
 unfold Wi;omega
theorem Ylh {p:Ze}(h1:1<=p.inc)(hp:Zj p){f:ZE}(fo:Yyu f):Zf (Zvw p f):=by
 have hw:=Ji h1 hp fo.b;have hb:=fo.b;have ho:=fo.o;refine⟨fun z hz=>?_,fun z hz=>?_⟩
 ·simp only[Zvw,List.mem_cons,List.not_mem_nil,or_false]at hz;rcases hz with rfl|rfl|rfl
  ·exact hb
  ·exact hw
  ·decide
 ·simp only[Zvw,List.mem_cons,List.not_mem_nil,or_false]at hz;rcases hz with rfl|rfl|rfl
  ·decide
  ·exact ho
  ·decide
theorem Ylz {g:ZA}(pv fv:Value)(hg:ZH h pv fv g)(np:g.ag.length<=1000)(hk:∀h' u,PH.le h h'->Zp h' u (Yha g)->K (.tuple #[stV (Yha g) u,.int .i64 (if Zrl g then 0 else 240)]) L h'):Zb prog 50 [genV g pv fv] L h K:=by
 have no:Zrl g=false->∀h',PH.le h h'->K (.tuple #[stV JB Zlm,.int .i64 240]) L h':=fun e h' le=>by
  have:=hk h' Zlm le (by rw[Yha,e];exact Zcp h');rw[Yha,e]at this;exact this
 have ok:=hg.ok;have gm:=hg.m;have hp:=hg.p;have hpw:=hp.word;obtain⟨pa,pc,rfl,_⟩:=hp.open;have hf:=hg.f;obtain⟨fa,fc,rfl,_,hfl,_,hfd⟩:=hf.open;refine eF func50 ?_;refine xx ?_;refine ZY fun b1 nb1 zb1=>?_;(try simp only[ZS]at nb1);refine xx ?_;refine ZY fun b2 nb2 zb2=>?_;(try simp only[ZS]at nb2);refine xx ?_;refine Vg g.par ok ?_
 cases q1:Yo g.par with
 | false =>
  have:=no (by simp only[Zrl,q1,Bool.false_and]) h (PH.le_refl h);refine xx ?_;exact ZO (ZO (ZP this))
 | true =>
 by_cases q2:4611686018427387904<g.most
 ·have:=no (by simp only[Zrl,decide_eq_false (p:=g.most<=4611686018427387904) qf,Bool.and_false,Bool.false_and]) h (PH.le_refl h);refine xx ?_;exact ZO (ZO (ZP this))
 refine xx ?_;refine Js _ _ _ ?_
 cases q3:wi g.ag.length 1 64 with
 | false =>
  have:=no (by simp only[Zrl,q3,Bool.and_false,Bool.false_and]) h (PH.le_refl h);refine xx ?_;exact ZO (ZO (ZP this))
 | true =>
 have q3':=wi_iff.1 q3;by_cases q4:128<g.ay.length
 ·have:=no (by simp only[Zrl,decide_eq_false (p:=g.ay.length<=128) qf,Bool.and_false,Bool.false_and]) h (PH.le_refl h);refine xx ?_;exact ZO (ZO (ZP this))
 refine xx ?_;refine Zob _ hp qf fun o0 k0 a0=>?_;have m1:apB o0 b1:=(ZV a0).head;have e0:g.ag.map (.int .u64)=Zvd g 0:=by simp [Zvd]
 rw[e0];refine xM ?_;refine Yi (γ:=Nat×Option (Nat×Nat)×Option (Nat×Nat)) (0,o0,none)
  (fun q=>q.1<=g.ay.length/\okO q.2.1 (g.ag.length+q.1)/\okO q.2.2 q.1/\apO q.2.1 (oent 74 6 q.2.2 (Zvf g q.1) (⟨b2,34,stC JB Zlm,41⟩::⟨b1,116,genC g (.slice pa g.ag.length pc) (.slice fa g.ay.length fc),27⟩::L)) h/\apO q.2.2 (⟨b2,34,stC JB Zlm,41⟩::⟨b1,116,genC g (.slice pa g.ag.length pc) (.slice fa g.ay.length fc),27⟩::L) h/\∀j,j<q.1->Ycn g (gr WQ g.ay j)=true)
  (fun q=>[(39,.int .i64 q.1),(38,.int .i64 g.ay.length),(37,.slice fa g.ay.length fc),(4,ovs q.2.1 (g.ag.length+q.1)),(5,ovs q.2.2 q.1),(1,.pointer (some ⟨b1,0,none⟩)),(2,.pointer (some ⟨b2,0,none⟩))])
  (fun q=>oent 22 1 q.2.1 (Zvd g q.1) (oent 74 6 q.2.2 (Zvf g q.1) (⟨b2,34,stC JB Zlm,41⟩::⟨b1,116,genC g (.slice pa g.ag.length pc) (.slice fa g.ay.length fc),27⟩::L))) (fun _=>h) (fun q=>g.ay.length-q.1) ?_ ?_ ?_ ?_
 ·exact⟨Nat.zero_le _,k0,rfl,a0,trivial,fun j hj=>wF⟩
 ·simp [Ent,List.lookup,YT,ovs]
 ·exact Za.refl _ _
 rintro⟨k,o1,o2⟩ ⟨i1,i2,i3,i4,i5,i6⟩;simp only at i1 i2 i3 i4 i5 i6 ⊢;have i4':=YH i4;have m1b:apB o1 b1:=(ZV i4').head;have m1a:apB o1 b2:=i4'.head;have m2b:apB o2 b1:=(ZV i5).head;have m2a:apB o2 b2:=i5.head;by_cases c1:k<g.ay.length
 ·have hfo:=hg.fo (gr WQ g.ay k) qG;have hfb:=hfo.b;have bad:Ycn g (gr WQ g.ay k)=false->K (.tuple #[stV JB Zlm,.int .i64 240]) L h:=fun e=>no (by simp only[Zrl,YF WQ (Ycn g) g.ay c1 e,Bool.and_false,Bool.false_and]) h (PH.le_refl h);simp -dsimp -implicitDefEqProofs (disch:=first|exact dD|fail) [go_sem,↓Us WQ qh hfd,Ywi];refine ZY fun b7 nb7 zb7=>?_;(try simp only[ZS]at nb7);have n7:=Yx (Yx nb7);simp only[ZS]at n7;obtain⟨n72,n71,_⟩:=n7;simp -dsimp -implicitDefEqProofs (disch:=first|exact dD|fail) [go_sem,Ywi,ZR m1b,ZR m2b];refine Js _ _ _ ?_
  cases q5:wi (gr WQ g.ay k).own 0 ((g.ag.length:Int)-1) with
  | false =>
   have:=bad (by simp only[Ycn,q5,Bool.false_and]);simp -dsimp -implicitDefEqProofs (disch:=first|exact dD|fail) [go_sem,ZX m1a,ZX m2a,ZR m1a,ZR m2a];exact ZO (WC (WC (ZO (ZO (ZP this)))))
  | true =>
  by_cases q6:(gr WQ g.ay k).bal<=g.par.floor
  ·have:=bad (by simp only[Ycn,decide_eq_false (p:=g.par.floor<(gr WQ g.ay k).bal) qf,Bool.and_false,Bool.false_and]);refine xN ?_;exact ZO (WC (WC (ZO (ZO (ZP this)))))
  by_cases q7:g.par.cap<(gr WQ g.ay k).bal
  ·have:=bad (by simp only[Ycn,decide_eq_false (p:=(gr WQ g.ay k).bal<=g.par.cap) qf,Bool.and_false]);refine xN ?_;exact ZO (WC (WC (ZO (ZO (ZP this)))))
  have yes:Ycn g (gr WQ g.ay k)=true:=by
   simp only[Ycn,q5,Bool.true_and,Bool.and_eq_true,decide_eq_true_eq];omega
  simp -dsimp -implicitDefEqProofs (disch:=first|exact dD|fail) [go_sem,ZR m1a,ZR m2a,ZR m1b,ZR m2b];refine ZY fun b8 nb8 zb8=>?_;(try simp only[ZS]at nb8);have n8:=Yx (Yx nb8.2);simp only[ZS]at n8;obtain⟨n82,n81,_⟩:=n8;refine xx ?_;refine ZZ (t:=25) (e:=22) (sz:=1) (bytes:=8) qg Vw rfl rfl rfl rfl qh [_,_] _ o1 (g.ag.length+k) (Zvd g k) i2 (Yef i1) (Src.own List.mem_cons_self) (m:=1) (news:=[.int .u64 (gr WQ g.ay k).bal]) rfl qy qm qf ?_;intro o1' j1 j2 j3;have j4:=ZV (ZV j2);have j4':=YH j4;have m1b':apB o1' b1:=(ZV j4').head;have m1a':apB o1' b2:=j4'.head;simp -dsimp -implicitDefEqProofs (disch:=first|exact dD|fail) [go_sem,ZR m1b',ZR m2b];refine Zoj g.par ok q1 _ hfo ?_;refine xx ?_;refine ZY fun b9 nb9 zb9=>?_;(try simp only[ZS]at nb9);refine xx ?_;rw[Zfu (e:=22) o1'];refine ZZ (t:=26) (e:=74) (sz:=6) (bytes:=48) qg Yer rfl rfl rfl rfl qh (_::_::_::oent 22 1 o1' _ []) _ o2 k (Zvf g k) i3 (Ygs i1) (Src.own List.mem_cons_self) (m:=1) (news:=YD (Zvw g.par (gr WQ g.ay k))) rfl (by intro u hu;simp only[YD,List.mem_cons,List.not_mem_nil,or_false]at hu;rcases hu with rfl|rfl|rfl|rfl|rfl|rfl<;>rfl) qm qf ?_;intro o2' l1 l2 l3;have l4:=ZV (ZV (ZV l2));have l5:=JM (e2:=74) (sz2:=6) (cs2:=Zvf g (k+1)) j4' l4;refine xx ?_;refine⟨k+1,o1',o2',⟨qf,by rw[<- Nat.add_assoc];exact j1,l1,l5.1,l5.2,fun j hj=>?_⟩,qf,by simp [Ent,List.lookup,Nat.add_assoc],?_⟩
  ·by_cases e:j=k
   ·subst e;exact yes
   ·exact i6 j qf
  ·rw[Zzp c1,Zvy c1,<- Zfu];exact(Za.tail _ _ _).trans ((Za.tail _ _ _).trans (Za.tail _ _ _))
 ·have hkl:k=g.ay.length:=qf;subst hkl;have fall:=Ja WQ (Ycn g) g.ay i6;have eA:Zvd g g.ay.length=(Ue g).map (.int .u64):=by simp [Zvd,Ue]
  have lA:(Ue g).length=g.ag.length+g.ay.length:=by simp [Ue]
  obtain⟨ma,mc,em,_⟩:=Z5 i3;rw[eA,em];refine xx ?_;refine WT (n:=g.ag.length+g.ay.length) i2 (by simp [lA]) qf i4 fun h1 le1 sl1=>?_
  have iA:Ints h1 .u64 (ovs o1 (g.ag.length+g.ay.length)) (Ue g):=⟨by rw[lA];exact sl1,fun z hz=>by
   rw[show IntKind.u64.min=0 from qh,show IntKind.u64.max=18446744073709551615 from qh];rcases List.mem_append.1 hz with hz|hz
   ·have:=hp.2 z hz
    rwa [show IntKind.u64.min=0 from qh,show IntKind.u64.max=18446744073709551615 from qh]at this
   ·obtain⟨f,hf1,rfl⟩:=List.mem_map.1 hz
    exact(hg.fo f hf1).b⟩
  refine Zb.ap (WO _ iA fun ap=>?_);have i5':=Gp i5 ap;have ap2:=Ap.oent ap;simp only[Ap]at ap2;obtain⟨p2,p1,_⟩:=ap2;have no1:Zrl g=false->K (.tuple #[stV JB Zlm,.int .i64 240]) L h1:=fun e=>no e h1 le1;by_cases c2:tot (Ue g)<=18446744073709551615
  ·rw[YR c2];by_cases c3:g.most<tot (Ue g)
   ·have:=no1 (by simp only[Zrl,decide_eq_false (p:=tot (Ue g)<=g.most) qf,Bool.and_false]);refine xO ?_;exact WC (ZO (ZO (ZP this)))
   have yes:Zrl g=true:=by
    simp only[Zrl,q1,q3,fall,Bool.true_and,Bool.and_true,Bool.and_eq_true,decide_eq_true_eq];omega
   refine xO ?_;refine Z4 (.tk 0 (.tk 2 (.tk 4 (.tk 5 (.tk 8 (.tkl 1 (.tkl 3 (.tkl 6 (.o1 7 (.o1 9 (.tk 10 (.o2 11 (.tk 12 (.fin)) (.nil))) (.nil)) (.nil)))))))))) qg qg _ (Za.refl _ _) ?_;refine xO ?_;refine Zb.ap (Gj _ (hp.up le1) qf fun h2 r2 le2 ir2 ap=>?_);have i5'':=Gp i5' ap;have ap2:=Ap.oent ap;simp only[Ap]at ap2;obtain⟨s2,s1,_⟩:=ap2;obtain⟨ra2,rc2,rfl,_⟩:=ir2.open;refine xkp (Za.forget le2) ?_;refine xO ?_;refine Zb.ap (Zkf fun h3 r3 le3 ir3 ap=>?_);have i5''':=Gp i5'' ap;have ap2:=Ap.oent ap;simp only[Ap]at ap2;obtain⟨u2,u1,_⟩:=ap2;obtain⟨ra3,rc3,rfl,_⟩:=ir3.open;refine xkp (Za.forget (le2.trans le3)) ?_;refine xO ?_;have eK:Zvf g g.ay.length=(g.ay.map (Zvw g.par)).flatMap YD:=by simp [Zvf]
   have lK:(g.ay.map (Zvw g.par)).length=g.ay.length:=qj;have eR:Yha g=Yia g:=by rw[Yha,yes];rfl
   rw[eR,yes]at hk;rw[eK];refine Yv (e:=74) (n:=g.ay.length) i3 (by rw[Z1 Z8,lK]) qf i5''' fun h4 le4 sl4=>?_;rw[em]at sl4;have hz0:0<=tot (Ue g):=Ym fun i=>by
    rcases Nat.lt_or_ge i (Ue g).length with hi|hi
    ·rw[<- Ys hi];have:=iA.2 _ (List.getElem_mem hi);rw[show IntKind.u64.min=0 from qh]at this;exact this.1
    ·simp [at0,List.getD_eq_getElem?_getD,List.getElem?_eq_none hi]
   have hS:Zp h4 ⟨.slice ra2 g.ag.length rc2,.slice ma g.ay.length mc,.slice none 0 0,.slice none 0 0,.slice none 0 0,.slice none 0 0,.slice none 0 0,.slice ra3 (List.replicate 16 (0:Int)).length rc3,.slice none 0 0⟩ (Yia g):=by
    refine⟨⟨ok,fun z hz=>?_,fun z hz=>?_⟩,ir2.up (le3.trans le4),⟨Z8,by rw[Yia,lK];exact sl4⟩,fun x hx=>?_,Y7 h4 .i64,Y7 h4 .i64,Zd.nil VM h4,(fun x hx=>zh),Zd.nil Yd h4,(fun x hx=>zh),⟨[],Zd.nil Ya h4,rfl,fun x hx=>zh⟩,ir3.up le4,⟨[],Zqi h4,rfl⟩⟩
    ·simp only[Yia,List.mem_cons,List.not_mem_nil,or_false]at hz;omega
    ·simp only[Yia,List.mem_cons,List.not_mem_nil,or_false]at hz;omega
    ·obtain⟨f,hf1,rfl⟩:=List.mem_map.1 hx;exact Ylh (Ul q1) ok (hg.fo f hf1)
   exact ZO (ZO (ZP (hk h4 _ ((le1.trans le2).trans (le3.trans le4)) hS)))
  ·rw[Wy c2];have:=no1 (by simp only[Zrl,decide_eq_false (p:=tot (Ue g)<=g.most) qf,Bool.and_false]);refine xO ?_;exact WC (ZO (ZO (ZP this)))
theorem Zxj (q y1 y0:Int):q*(y1*4294967296+y0)=q*y1*4294967296+q*y0:=by
 rw[Int.mul_add,<- Int.mul_assoc]
structure Kn (v u y1 y0 q r:Int):Prop where
 sum:q*y1+r=v
 q0:0<=q
 q1:q<=4294967297
 r0:0<=r
 up:(v*4294967296+u)/(y1*4294967296+y0)<=q
structure KnH (v u y1 y0:Int):Prop where
 hv:0<=v
 hu:0<=u/\u<4294967296
 h1:2147483648<=y1/\y1<4294967296
 h0:0<=y0/\y0<4294967296
 lt:v<y1*4294967296+y0
theorem Zzc {v u y1 y0:Int}(H:KnH v u y1 y0):Kn v u y1 y0 (v/y1) (v-v/y1*y1):=by
 obtain⟨v0,u0,h1,h0,lt⟩:=H;have e:=Int.ediv_mul_add_emod v y1;have m0:=Int.emod_nonneg v (show y1≠0 from qf);have m1:=Int.emod_lt_of_pos v (show 0<y1 from qf);have q0:0<=v/y1:=Int.ediv_nonneg v0 qf;refine⟨qf,q0,?_,qf,?_⟩
 ·have:v/y1<4294967298:=Int.ediv_lt_of_lt_mul qf qf;omega
 ·refine Int.le_ediv_of_mul_le qf ?_
  generalize hq:(v*4294967296+u)/(y1*4294967296+y0)=q
  have qn:0<=q:=by rw[<- hq];exact Int.ediv_nonneg qf qf
  have a:=Int.ediv_mul_le (v*4294967296+u) (show y1*4294967296+y0≠0 from qf);rw[hq,Zxj]at a;have b:=Int.mul_nonneg qn h0.1;omega
theorem Zdo {v u y1 y0 q r:Int}(H:KnH v u y1 y0)(k:Kn v u y1 y0 q r)(c:q*y0<=4294967296*r+u):q=(v*4294967296+u)/(y1*4294967296+y0):=by
 obtain⟨v0,u0,h1,h0,lt⟩:=H;refine Int.le_antisymm (Int.le_ediv_of_mul_le qf ?_) k.up;rw[Zxj];have:=k.sum;omega
theorem Zbf {v u y1 y0 q r:Int}(H:KnH v u y1 y0)(k:Kn v u y1 y0 q r)(hq:q<=4294967296)(hr:4294967296<=r):q=(v*4294967296+u)/(y1*4294967296+y0):=by
 refine Zdo H k ?_;have:=Int.mul_le_mul_of_nonneg_right hq H.h0.1;have:=H.h0;have:=H.hu;omega
theorem Zjh {v u y1 y0 q r:Int}(H:KnH v u y1 y0)(k:Kn v u y1 y0 q r)(c:4294967296<=q\/4294967296*r+u<q*y0):Kn v u y1 y0 (q-1) (r+y1)/\1<=q:=by
 obtain⟨v0,u0,h1,h0,lt⟩:=H;obtain⟨s,q0,q1,r0,up⟩:=k;have hq0:0<=(v*4294967296+u)/(y1*4294967296+y0):=Int.ediv_nonneg qf qf;have hlt:(v*4294967296+u)/(y1*4294967296+y0)<q:=by
  rcases c with c|c
  ·refine Int.lt_of_lt_of_le (Int.ediv_lt_of_lt_mul (b:=4294967296) qf qf) c
  ·refine Int.ediv_lt_of_lt_mul qf ?_;rw[Zxj];omega
 refine⟨⟨?_,qf,qf,qf,qf⟩,qf⟩;rw[Int.sub_mul,Int.one_mul];omega
theorem Yty (v u1 u0 y:Int)(hy:0<y)(h0:0<=u0)(h0':u0<4294967296):((v*4294967296+u1)*4294967296+u0)/y=(v*4294967296+u1)/y*4294967296+((v*4294967296+u1)%y*4294967296+u0)/y /\
  ((v*4294967296+u1)*4294967296+u0)%y=((v*4294967296+u1)%y*4294967296+u0)%y:=by
 have e:=Int.ediv_mul_add_emod (v*4294967296+u1) y
 generalize (v*4294967296+u1)/y=q1 at *
 generalize (v*4294967296+u1)%y=r1 at *
 rw[<- e];have e2:(q1*y+r1)*4294967296+u0=(r1*4294967296+u0)+(q1*4294967296)*y:=by
  rw[Int.add_mul,Int.mul_assoc,Int.mul_comm y,<- Int.mul_assoc];omega
 rw[e2,Int.add_mul_ediv_right _ _ qf,Int.add_mul_emod_self_right];exact⟨Int.add_comm _ _,rfl⟩
theorem Yku (n y s:Int)(hs:0<s):n*s/(y*s)=n/y/\n*s%(y*s)/s=n%y:=by
 refine⟨by rw[Int.mul_ediv_mul_of_pos_left _ _ hs],?_⟩;rw[Int.mul_comm n,Int.mul_comm y,Int.mul_emod_mul_of_pos _ _ hs,Int.mul_ediv_cancel_left _ qf]
theorem kn_or (a b s:Nat)(hs:s<=64)(hb:b<2 ^ s):(a*2 ^ s) ||| b=a*2 ^ s+b:=by
 rw[Nat.mul_comm];exact(Nat.two_pow_add_eq_or_of_lt hb a).symm
theorem Ykl (y:Int)(n:Nat)(hn:1<=n/\n<=64)(h1:2 ^ (n-1)<=y)(h2:y<2 ^ n):9223372036854775808<=y*2 ^ (64-n)/\y*2 ^ (64-n)<18446744073709551616:=by
 have p:(0:Int)<2 ^ (64-n):=Int.pow_pos qh;have e1:(2:Int) ^ (n-1)*2 ^ (64-n)=9223372036854775808:=by
  rw[<- Int.pow_add,show n-1+(64-n)=63 from qf];decide
 have e2:(2:Int) ^ n*2 ^ (64-n)=18446744073709551616:=by
  rw[<- Int.pow_add,show n+(64-n)=64 from qf];decide
 have h3:=Int.mul_le_mul_of_nonneg_right h1 (Int.le_of_lt p);have h4:=Int.mul_lt_mul_of_pos_right h2 p;omega
def bl (j:Nat):Nat:=if j=0 then 0 else Nat.log2 j+1
theorem Zeb:∀ j,j<256->1<=j->1<=bl j/\bl j<=8/\(2:Int) ^ (bl j-1)<=(j:Int)/\(j:Int)<2 ^ bl j:=by decide +kernel
theorem Yke {x t:Int}(c:Nat)(hc:c<=56)(ht:t=x/2 ^ c)(h:1<=t/\t<=255):(1<=c+bl t.toNat/\c+bl t.toNat<=64)/\2 ^ (c+bl t.toNat-1)<=x/\x<2 ^ (c+bl t.toNat):=by
 obtain⟨b1,b2,b3,b4⟩:=Zeb t.toNat qf qf;rw[Int.toNat_of_nonneg qf]at b3 b4
 generalize bl t.toNat=n at *
 have p:(0:Int)<2 ^ c:=Int.pow_pos qh;have d:=Int.ediv_mul_add_emod x (2 ^ c);have m0:=Int.emod_nonneg x (show (2:Int) ^ c≠0 from qf);have m1:=Int.emod_lt_of_pos x p;rw[<- ht]at d;refine⟨qf,?_,?_⟩
 ·rw[show c+n-1=(n-1)+c from qf,Int.pow_add];have:=Int.mul_le_mul_of_nonneg_right b3 (Int.le_of_lt p);omega
 ·rw[show c+n=n+c from qf,Int.pow_add];have h1:t+1<=2 ^ n:=b4;have:=Int.mul_le_mul_of_nonneg_right h1 (Int.le_of_lt p);rw[Int.add_mul,Int.one_mul]at this;omega
theorem Jk {P:Program}{t:Nat}(ht:P.underlying t=some .string)(S:ByteArray)(k:IntKind)(i:Int)(hi:0<=i/\i<=255)(hS:((List.range 256).all fun j=>S[j]? == some (UInt8.ofNat (bl j)))=true)(K:Value->Prop)(tk:Zm K) :
  xIx P t (.string S) (.int k i) K tk=K (.int .u8 (bl i.toNat:Nat)):=by
 have h1:=List.all_eq_true.1 hS i.toNat (List.mem_range.2 qf);have h2:S[i.toNat]?=some (UInt8.ofNat (bl i.toNat)):=qO;have h3:(UInt8.ofNat (bl i.toNat)).toNat=bl i.toNat:=by
  by_cases c:i.toNat=0
  ·rw[c];rfl
  ·have:=(Zeb i.toNat qf qf).2.1;rw[UInt8.toNat_ofNat'];omega
 refine Yw (fun W=>?_) K;simp [Instr.index,asIntOf,underlying,ht,hi.1,h2,h3,go_sem]
theorem Zzt (x:Int)(hx:1<=x/\x<=18446744073709551615)(hk:∀n:Nat,1<=n/\n<=64->2 ^ (n-1)<=x->x<2 ^ n->K (.int .i64 n) L h):Zb prog 387 [.int .u64 x] L h K:=by
 have e:∀(c:Nat) (t:Int),c<=56->t=x/2 ^ c->1<=t/\t<=255->K (.int .i64 ((c:Int)+(bl t.toNat:Nat))) L h:=fun c t hc ht h1=>by
  obtain⟨a,b,d⟩:=Yke c hc ht h1;have:=hk _ a b d
  rwa [Int.natCast_add]at this
 refine ed func387 ?_;by_cases c1:4294967296<=x
 ·by_cases c2:65536<=x/4294967296
  ·by_cases c3:256<=x/4294967296/65536
   ·have b8:=(Zeb (x/4294967296/65536/256).toNat qf qf).2.1;have:=e 56 (x/4294967296/65536/256) qh qf qf;refine xP ?_;rw[Jk qg _ _ _ qf qE];refine xx ?_;exact ZP this
   ·have b8:=(Zeb (x/4294967296/65536).toNat qf qf).2.1;have:=e 48 (x/4294967296/65536) qh qf qf;refine xP ?_;rw[Jk qg _ _ _ qf qE];refine xx ?_;exact ZP this
  ·by_cases c3:256<=x/4294967296
   ·have b8:=(Zeb (x/4294967296/256).toNat qf qf).2.1;have:=e 40 (x/4294967296/256) qh qf qf;refine xP ?_;rw[Jk qg _ _ _ qf qE];refine xx ?_;exact ZP this
   ·have b8:=(Zeb (x/4294967296).toNat qf qf).2.1;have:=e 32 (x/4294967296) qh qf qf;refine xP ?_;rw[Jk qg _ _ _ qf qE];refine xx ?_;exact ZP this
 ·by_cases c2:65536<=x
  ·by_cases c3:256<=x/65536
   ·have b8:=(Zeb (x/65536/256).toNat qf qf).2.1;have:=e 24 (x/65536/256) qh qf qf;refine xP ?_;rw[Jk qg _ _ _ qf qE];refine xx ?_;exact ZP this
   ·have b8:=(Zeb (x/65536).toNat qf qf).2.1;have:=e 16 (x/65536) qh qf qf;refine xP ?_;rw[Jk qg _ _ _ qf qE];refine xx ?_;exact ZP this
  ·by_cases c3:256<=x
   ·have b8:=(Zeb (x/256).toNat qf qf).2.1;have:=e 8 (x/256) qh qf qf;refine xP ?_;rw[Jk qg _ _ _ qf qE];refine xx ?_;exact ZP this
   ·have b8:=(Zeb x.toNat qf qf).2.1;have:=e 0 x qh qj qf;simp only[Int.natCast_zero,Int.cast_ofNat_Int,Int.zero_add]at this;refine xP ?_;rw[Jk qg _ _ _ qf qE];refine xx ?_;exact ZP this
theorem Yua (a b:Int)(s:Nat)(hs:s<=63)(ha:0<=a)(hb:0<=b/\b<2 ^ s)(hab:a*2 ^ s+b<=18446744073709551615):bits .or .u64 (a*2 ^ s) b=a*2 ^ s+b:=by
 obtain⟨x,rfl⟩:=Int.eq_ofNat_of_zero_le ha;obtain⟨y,rfl⟩:=Int.eq_ofNat_of_zero_le hb.1;have hy:y<2 ^ s:=by exact_mod_cast hb.2
 have e:(x:Int)*2 ^ s=((x*2 ^ s:Nat):Int):=by push_cast;rfl
 have k:=kn_or x y s qf hy;rw[e]at hab ⊢
 generalize x*2 ^ s=z at *
 rw[u64_or_nat z y qf qf,k,Int.natCast_add]
theorem Yqb (x:Int)(hx:1<=x/\x<=18446744073709551615)(hk:∀n:Nat,1<=n/\n<=64->2 ^ (n-1)<=x->x<2 ^ n->K (.int .i64 (64-n)) L h):Zb prog 385 [.int .u64 x] L h K:=by
 refine ed func385 ?_;refine xx ?_;refine Zzt x hx fun n hn h1 h2=>?_;have:=hk n hn h1 h2;refine xx ?_;exact ZP this
theorem Zxr (x u q y r:Int)(e:q*y+r=x*4294967296+u)(hr:0<=r/\r<=18446744073709551615):IntKind.u64.wrap (IntKind.u64.wrap (IntKind.u64.wrap (x*4294967296)+u)-IntKind.u64.wrap (q*y))=r:=by
 simp only[Ju]
 generalize q*y=z at *
 omega
theorem Yaj (a b S T:Int)(hS:1<=S)(hT:1<=T)(hST:S*T=18446744073709551616)(hb:0<=b/\b<=18446744073709551615):0<=b/T/\b/T<S/\(a*18446744073709551616+b)*S=(a*S+b/T)*18446744073709551616+b*S%18446744073709551616:=by
 have h0:=Int.ediv_nonneg hb.1 (show 0<=T from qf);have h1:b/T<S:=Int.ediv_lt_of_lt_mul qf qf;have d:=Int.ediv_mul_add_emod b T;have m0:=Int.emod_nonneg b (show T≠0 from qf);have m1:=Int.emod_lt_of_pos b (show 0<T from qf);have e:b*S=b/T*18446744073709551616+b%T*S:=by
  rw[<- hST,<- Int.mul_assoc,Int.mul_right_comm,<- Int.add_mul,d]
 have l0:=Int.mul_nonneg m0 (show 0<=S from qf);have l1:b%T*S<18446744073709551616:=by
  rw[<- hST,Int.mul_comm S T];exact Int.mul_lt_mul_of_pos_right m1 qf
 refine⟨h0,h1,?_⟩;rw[Int.add_mul,Int.add_mul,e,Int.mul_right_comm]
 generalize b%T*S=z at *
 generalize b/T=w at *
 generalize a*S=x at *
 omega
theorem Zwm (a b c:Int)(ha:1<=a/\a<c)(hb:0<=b/\b<=18446744073709551615)(hc:c<=18446744073709551615)(hk:K (.tuple #[.int .u64 ((a*18446744073709551616+b)/c),.int .u64 ((a*18446744073709551616+b)%c)]) L h):Zb prog 383 [.int .u64 a,.int .u64 b,.int .u64 c] L h K:=by
 refine eF func383 ?_;refine xx ?_;refine Yqb c qf fun n hn g1 g2=>?_;obtain⟨hy1,hy2⟩:=Ykl c n hn g1 g2;obtain⟨s,hs⟩:∃s,s=64-n:=⟨_,rfl⟩
 obtain⟨S,hS⟩:∃S,S=(2:Int) ^ s:=⟨_,rfl⟩
 obtain⟨T,hT⟩:∃T,T=(2:Int) ^ n:=⟨_,rfl⟩
 have hS1:1<=S:=by rw[hS];exact Int.pow_pos qh
 have hT1:1<=T:=by rw[hT];exact Int.pow_pos qh
 have hST:S*T=18446744073709551616:=by
  rw[hS,hT,<- Int.pow_add,show s+n=64 from qf];decide
 rw[<- hs,<- hS]at hy1 hy2;obtain⟨w0,w1,hN⟩:=Yaj a b S T hS1 hT1 hST hb;obtain⟨w,hw⟩:∃w,w=b/T:=⟨_,rfl⟩
 rw[<- hw]at w0 w1 hN;have haS:a*S+w<c*S:=by
  have:(a+1)*S<=c*S:=Int.mul_le_mul_of_nonneg_right qf qf;rw[Int.add_mul]at this;omega
 have ha0:=Int.mul_nonneg (show 0<=a from qf) (show 0<=S from qf);have hor:bits .or .u64 (a*S) w=a*S+w:=by
  rw[hS]at w1 haS hy2 ⊢;exact Yua a w s qf qf ⟨w0,w1⟩ qf
 obtain⟨e3,e4⟩:=Yku (a*18446744073709551616+b) c S qf;rw[hN]at e3 e4;rw[<- e3,<- e4]at hk;have hbS:=Int.mul_nonneg hb.1 (show 0<=S from qf);obtain⟨u,hu⟩:∃u,u=b*S%18446744073709551616:=⟨_,rfl⟩
 rw[<- hu]at hk;have hu1:0<=u/\u<18446744073709551616:=qf;obtain⟨y,hy⟩:∃y,y=c*S:=⟨_,rfl⟩
 rw[<- hy]at hy1 hy2 haS hk;obtain⟨v,hv⟩:∃v,v=a*S+w:=⟨_,rfl⟩
 rw[<- hv]at haS hor hk;have hv0:1<=v:=by
  have:=Int.mul_le_mul_of_nonneg_right (show 1<=a from qf) (show 0<=S from qf);omega
 have hy32:=and_low32 y qf hy2;have hu32:=and_low32 u hu1.1 hu1.2;have huw:IntKind.u64.wrap (b*S)=u:=by rw[Ju,hu]
 have has:a*S<=18446744073709551615:=qf;clear hN e3 e4 hbS hST hT1 g1 g2;have e5:((64:Int)-(64-n)).toNat=n:=qf;obtain⟨y1,hy1'⟩:∃y1,y1=y/4294967296:=⟨_,rfl⟩
 obtain⟨y0,hy0'⟩:∃y0,y0=y%4294967296:=⟨_,rfl⟩
 obtain⟨u1,hu1'⟩:∃u1,u1=u/4294967296:=⟨_,rfl⟩
 obtain⟨u0,hu0'⟩:∃u0,u0=u%4294967296:=⟨_,rfl⟩
 have hyy:y1*4294967296+y0=y:=qf;have hu1b:0<=u1/\u1<=4294967295:=qf;have hu0b:0<=u0/\u0<=4294967295:=qf;have hy1b:2147483648<=y1/\y1<=4294967295:=qf;have hy0b:0<=y0/\y0<=4294967295:=qf;have H1:KnH v u1 y1 y0:=⟨qf,qf,qf,qf,qf⟩
 have I1:=Zzc H1;have I1q:=I1.q1;have I1n:=I1.q0;have I1r:=I1.r0;have I1p:0<=v/y1*y1:=Int.mul_nonneg I1n qf;have I1s:v-v/y1*y1<4294967296:=by
  have d:=Int.ediv_mul_add_emod v y1;have m1:=Int.emod_lt_of_pos v (show 0<y1 from qf);omega
 obtain⟨two1,two2⟩:=Yty v u1 u0 y qf hu0b.1 qf;rw[show v*18446744073709551616+u=(v*4294967296+u1)*4294967296+u0 from qf,two1,two2]at hk;obtain⟨D1,hD1⟩:∃D,D=(v*4294967296+u1)/y:=⟨_,rfl⟩
 obtain⟨R1,hR1⟩:∃R,R=(v*4294967296+u1)%y:=⟨_,rfl⟩
 have dR1:D1*y+R1=v*4294967296+u1:=by rw[hD1,hR1];exact Int.ediv_mul_add_emod _ _
 have bR1:0<=R1/\R1<y:=by rw[hR1];exact⟨Int.emod_nonneg _ qf,Int.emod_lt_of_pos _ qf⟩
 have bD1:0<=D1/\D1<=4294967295:=by
  rw[hD1];refine⟨Int.ediv_nonneg qf qf,?_⟩;have:(v*4294967296+u1)/y<4294967296:=Int.ediv_lt_of_lt_mul qf qf;omega
 rw[<- hD1,<- hR1]at hk;obtain⟨D2,hD2⟩:∃D,D=(R1*4294967296+u0)/y:=⟨_,rfl⟩
 obtain⟨R2,hR2⟩:∃R,R=(R1*4294967296+u0)%y:=⟨_,rfl⟩
 have dR2:D2*y+R2=R1*4294967296+u0:=by rw[hD2,hR2];exact Int.ediv_mul_add_emod _ _
 have bR2:0<=R2/\R2<y:=by rw[hR2];exact⟨Int.emod_nonneg _ qf,Int.emod_lt_of_pos _ qf⟩
 have bD2:0<=D2/\D2<=4294967295:=by
  rw[hD2];refine⟨Int.ediv_nonneg qf qf,?_⟩;have:(R1*4294967296+u0)/y<4294967296:=Int.ediv_lt_of_lt_mul qf qf;omega
 rw[<- hD2,<- hR2]at hk;have H2:KnH R1 u0 y1 y0:=⟨qf,qf,qf,qf,qf⟩
 have I2:=Zzc H2;have I2q:=I2.q1;have I2n:=I2.q0;have I2r:=I2.r0;have I2p:0<=R1/y1*y1:=Int.mul_nonneg I2n qf;have I2s:R1-R1/y1*y1<4294967296:=by
  have d:=Int.ediv_mul_add_emod R1 y1;have m1:=Int.emod_lt_of_pos R1 (show 0<y1 from qf);omega
 have W1:=Zxr v u1 D1 y R1 dR1 qf;have W2:=Zxr R1 u0 D2 y R2 dR2 qf;simp -dsimp -implicitDefEqProofs (disch:=first|exact dD|fail) [go_sem,IntKind.bits,<- hs,<- hS,e5,<- hT,<- hw,<- hy,hor,huw,hy32,hu32,<- hy1',<- hy0',<- hu1',<- hu0'];clear hor hw ha0 has huw hu hv w0 w1 hy32 hu32 two1 two2;clear hb ha hc hu1 hv0 hu1' hu0' hy1' hy0' hy hy1;refine Y1 (γ:=Int×Int) (v/y1,v-v/y1*y1) (fun s=>Kn v u1 y1 y0 s.1 s.2/\s.2<4294967296) (fun s=>[(15,.int .u64 s.1),(16,.int .u64 s.2),(2,.int .u64 y),(8,.int .u64 (64-n)),(9,.int .u64 y1),(10,.int .u64 y0),(11,.int .u64 v),(13,.int .u64 u1),(14,.int .u64 u0)]) (fun s=>s.1.toNat) ?_ ?_ ?_
 ·exact⟨I1,I1s⟩
 ·simp [Ent,List.lookup]
 rintro⟨q,r⟩ ⟨k,hr⟩;simp only at k hr ⊢;have kq:=k.q0;have kq1:=k.q1;have kr:=k.r0;by_cases c1:q<4294967296
 ·have hp:=WL q y0 kq qf hy0b.1 hy0b.2;by_cases c2:4294967296*r+u1<q*y0
  ·obtain⟨k2,hq1⟩:=Zjh H1 k (.inr c2);by_cases c3:4294967296<=r+y1
   ·have hq:=Zbf H1 k2 qf c3;rw[hyy,<- hD1]at hq;refine xx ?_;simp only[hq,W1];refine xQ ?_;clear k kq kq1 kr hq;refine Y1 (γ:=Int×Int) (R1/y1,R1-R1/y1*y1) (fun s=>Kn R1 u0 y1 y0 s.1 s.2/\s.2<4294967296) (fun s=>[(18,.int .u64 s.1),(16,.int .u64 s.2),(2,.int .u64 y),(8,.int .u64 (64-n)),(9,.int .u64 y1),(10,.int .u64 y0),(14,.int .u64 u0),(15,.int .u64 D1),(17,.int .u64 R1)]) (fun s=>s.1.toNat) ?_ ?_ ?_
    ·exact⟨I2,I2s⟩
    ·simp [Ent,List.lookup]
    rintro⟨q,r⟩ ⟨k,hr⟩;simp only at k hr ⊢;have kq:=k.q0;have kq1:=k.q1;have kr:=k.r0;by_cases c1:q<4294967296
    ·have hp:=WL q y0 kq qf hy0b.1 hy0b.2;by_cases c2:4294967296*r+u0<q*y0
     ·obtain⟨k2,hq1⟩:=Zjh H2 k (.inr c2);by_cases c3:4294967296<=r+y1
      ·have hq:=Zbf H2 k2 qf c3;rw[hyy,<- hD2]at hq;refine xx ?_;simp only[hq,W2,<- hs,<- hS];exact ZP hk
      ·refine xx ?_;exact⟨q-1,r+y1,⟨k2,qf⟩,qf,qi,Za.refl _ _⟩
     ·have hq:=Zdo H2 k qf;rw[hyy,<- hD2]at hq;refine xx ?_;simp only[hq,W2,<- hs,<- hS];exact ZP hk
    ·obtain⟨k2,hq1⟩:=Zjh H2 k (.inl qf);by_cases c3:4294967296<=r+y1
     ·have hq:=Zbf H2 k2 qf c3;rw[hyy,<- hD2]at hq;refine xx ?_;simp only[hq,W2,<- hs,<- hS];exact ZP hk
     ·refine xx ?_;exact⟨q-1,r+y1,⟨k2,qf⟩,qf,qi,Za.refl _ _⟩
   ·refine xx ?_;exact⟨q-1,r+y1,⟨k2,qf⟩,qf,qi,Za.refl _ _⟩
  ·have hq:=Zdo H1 k qf;rw[hyy,<- hD1]at hq;refine xx ?_;simp only[hq,W1];refine xQ ?_;clear k kq kq1 kr hq;refine Y1 (γ:=Int×Int) (R1/y1,R1-R1/y1*y1) (fun s=>Kn R1 u0 y1 y0 s.1 s.2/\s.2<4294967296) (fun s=>[(18,.int .u64 s.1),(16,.int .u64 s.2),(2,.int .u64 y),(8,.int .u64 (64-n)),(9,.int .u64 y1),(10,.int .u64 y0),(14,.int .u64 u0),(15,.int .u64 D1),(17,.int .u64 R1)]) (fun s=>s.1.toNat) ?_ ?_ ?_
   ·exact⟨I2,I2s⟩
   ·simp [Ent,List.lookup]
   rintro⟨q,r⟩ ⟨k,hr⟩;simp only at k hr ⊢;have kq:=k.q0;have kq1:=k.q1;have kr:=k.r0;by_cases c1:q<4294967296
   ·have hp:=WL q y0 kq qf hy0b.1 hy0b.2;by_cases c2:4294967296*r+u0<q*y0
    ·obtain⟨k2,hq1⟩:=Zjh H2 k (.inr c2);by_cases c3:4294967296<=r+y1
     ·have hq:=Zbf H2 k2 qf c3;rw[hyy,<- hD2]at hq;refine xx ?_;simp only[hq,W2,<- hs,<- hS];exact ZP hk
     ·refine xx ?_;exact⟨q-1,r+y1,⟨k2,qf⟩,qf,qi,Za.refl _ _⟩
    ·have hq:=Zdo H2 k qf;rw[hyy,<- hD2]at hq;refine xx ?_;simp only[hq,W2,<- hs,<- hS];exact ZP hk
   ·obtain⟨k2,hq1⟩:=Zjh H2 k (.inl qf);by_cases c3:4294967296<=r+y1
    ·have hq:=Zbf H2 k2 qf c3;rw[hyy,<- hD2]at hq;refine xx ?_;simp only[hq,W2,<- hs,<- hS];exact ZP hk
    ·refine xx ?_;exact⟨q-1,r+y1,⟨k2,qf⟩,qf,qi,Za.refl _ _⟩
 ·obtain⟨k2,hq1⟩:=Zjh H1 k (.inl qf);by_cases c3:4294967296<=r+y1
  ·have hq:=Zbf H1 k2 qf c3;rw[hyy,<- hD1]at hq;refine xx ?_;simp only[hq,W1];refine xQ ?_;clear k kq kq1 kr hq;refine Y1 (γ:=Int×Int) (R1/y1,R1-R1/y1*y1) (fun s=>Kn R1 u0 y1 y0 s.1 s.2/\s.2<4294967296) (fun s=>[(18,.int .u64 s.1),(16,.int .u64 s.2),(2,.int .u64 y),(8,.int .u64 (64-n)),(9,.int .u64 y1),(10,.int .u64 y0),(14,.int .u64 u0),(15,.int .u64 D1),(17,.int .u64 R1)]) (fun s=>s.1.toNat) ?_ ?_ ?_
   ·exact⟨I2,I2s⟩
   ·simp [Ent,List.lookup]
   rintro⟨q,r⟩ ⟨k,hr⟩;simp only at k hr ⊢;have kq:=k.q0;have kq1:=k.q1;have kr:=k.r0;by_cases c1:q<4294967296
   ·have hp:=WL q y0 kq qf hy0b.1 hy0b.2;by_cases c2:4294967296*r+u0<q*y0
    ·obtain⟨k2,hq1⟩:=Zjh H2 k (.inr c2);by_cases c3:4294967296<=r+y1
     ·have hq:=Zbf H2 k2 qf c3;rw[hyy,<- hD2]at hq;refine xx ?_;simp only[hq,W2,<- hs,<- hS];exact ZP hk
     ·refine xx ?_;exact⟨q-1,r+y1,⟨k2,qf⟩,qf,qi,Za.refl _ _⟩
    ·have hq:=Zdo H2 k qf;rw[hyy,<- hD2]at hq;refine xx ?_;simp only[hq,W2,<- hs,<- hS];exact ZP hk
   ·obtain⟨k2,hq1⟩:=Zjh H2 k (.inl qf);by_cases c3:4294967296<=r+y1
    ·have hq:=Zbf H2 k2 qf c3;rw[hyy,<- hD2]at hq;refine xx ?_;simp only[hq,W2,<- hs,<- hS];exact ZP hk
    ·refine xx ?_;exact⟨q-1,r+y1,⟨k2,qf⟩,qf,qi,Za.refl _ _⟩
  ·refine xx ?_;exact⟨q-1,r+y1,⟨k2,qf⟩,qf,qi,Za.refl _ _⟩
def dwE (a b c:Int):Int:=if c=0 then 20 else if a*b/c<=18446744073709551615 then 0 else 10
def dwN (a b c:Int):Int:=if dwE a b c=0 then a*b/c else 0
def uqQ (a b c:Int):Int:=if a*b%c=0 then a*b/c else a*b/c+1
def uqE (a b c:Int):Int:=if c=0 then 20 else if uqQ a b c<=18446744073709551615 then 0 else 10
def uqN (a b c:Int):Int:=if uqE a b c=0 then uqQ a b c else 0
theorem Yuu {a b c:Int}(ha:0<=a)(hb:0<=b)(hc:0<=c):0<=dwN a b c/\dwN a b c<=18446744073709551615:=by
 have:=Int.ediv_nonneg (Int.mul_nonneg ha hb) hc;by_cases e:dwE a b c=0
 ·rw[dwN,if_pos e];unfold dwE at e;refine⟨this,Int.not_lt.1 fun c2=>?_⟩;split at e
  ·cases e
  ·rw[if_neg qf]at e
   cases e
 ·rw[dwN,if_neg e];decide
theorem Yux {a b c:Int}(ha:0<=a)(hb:0<=b)(hc:0<=c):0<=uqN a b c/\uqN a b c<=18446744073709551615:=by
 have:=Int.ediv_nonneg (Int.mul_nonneg ha hb) hc;have h2:0<=uqQ a b c:=by unfold uqQ;split<;>omega
 by_cases e:uqE a b c=0
 ·rw[uqN,if_pos e];unfold uqE at e;refine⟨h2,Int.not_lt.1 fun c2=>?_⟩;split at e
  ·cases e
  ·rw[if_neg qf]at e
   cases e
 ·rw[uqN,if_neg e];decide
theorem Zmg (b c:Int)(hb:0<=b/\b<=18446744073709551615)(hc:1<=c/\c<=18446744073709551615)(hk:K (.tuple #[.int .u64 (b/c),.int .u64 (b%c)]) L h):Zb prog 383 [.int .u64 0,.int .u64 b,.int .u64 c] L h K:=by
 have h1:=Int.ediv_nonneg hb.1 (show 0<=c from qf);have h2:b/c<=b:=Int.ediv_le_self _ hb.1;have h3:=Int.emod_nonneg b (show c≠0 from qf);have h4:=Int.emod_lt_of_pos b (show 0<c from qf);refine eF func383 ?_;refine xx ?_;refine Z4 (.tk 0 (.tk 1 (.tk 2 (.tk 3 (.tk 4 (.tk 5 (.tk 6 (.tk 7 (.fin))))))))) qg qg _ (Za.refl _ _) ?_;refine xx ?_;exact ZP hk
def rsN (a b c:Int):Int:=if dwE a b c=0 then a*b%c else 0
theorem Ymv {t x w:Int}(ht:0<=t)(hx:0<=x)(hxw:x<=w)(htm:t<=18446744073709551615)(hw:0<w):dwN t x w=t*x/w/\dwE t x w=0:=by
 have h1:t*x<=t*w:=Int.mul_le_mul_of_nonneg_left hxw ht;have h2:t*x/w<=t*w/w:=Int.ediv_le_ediv hw h1;rw[Int.mul_ediv_cancel _ qf]at h2;have e:dwE t x w=0:=by rw[dwE,if_neg qf,if_pos qf]
 exact⟨by rw[dwN,if_pos e],e⟩
theorem Ycg (a b c:Int)(ha:0<=a/\a<c)(hb:0<=b/\b<=18446744073709551615)(hc:c<=18446744073709551615)(hk:K (.tuple #[.int .u64 ((a*18446744073709551616+b)/c),.int .u64 ((a*18446744073709551616+b)%c)]) L h):Zb prog 383 [.int .u64 a,.int .u64 b,.int .u64 c] L h K:=by
 by_cases e:a=0
 ·subst e;simp only[Int.zero_mul,Int.zero_add]at hk;exact Zmg b c hb ⟨qf,hc⟩ hk
 ·exact Zwm a b c ⟨qf,ha.2⟩ hb hc hk
theorem Yta (n c:Int)(hn:0<=n/\n/18446744073709551616<=18446744073709551615)(hc:1<=c/\c<=18446744073709551615)(hk:K (if n/c<=18446744073709551615 then .tuple #[.int .u64 (n/c),.int .u64 (n%c),.bool true] else .tuple #[.int .u64 0,.int .u64 0,.bool false]) L h) :
  Zb prog 376 [.agg #[.int .u64 (n/18446744073709551616),.int .u64 (n%18446744073709551616)],.int .u64 c] L h K:=by
 have e0:n/18446744073709551616*18446744073709551616+n%18446744073709551616=n:=qf;refine eu func376 ?_;refine xx ?_;refine ZY fun b2 nb2 zb2=>?_;(try simp only[ZS]at nb2);refine xx ?_;by_cases c1:c<=n/18446744073709551616
 ·have:¬n/c<=18446744073709551615:=fun x=>by
   have h1:18446744073709551616<=n/c:=Int.le_ediv_of_mul_le qf qf;omega
  rw[if_neg this]at hk;refine xx ?_;exact ZO (ZP hk)
 ·have:n/c<18446744073709551616:=Int.ediv_lt_of_lt_mul qf qf;rw[if_pos qf]at hk;refine xx ?_;refine Ycg _ _ c ⟨qf,qf⟩ qf hc.2 ?_;rw[e0];refine xx ?_;exact ZO (ZP hk)
theorem Zxq (a b c:Int)(ha:0<=a/\a<=18446744073709551615)(hb:0<=b/\b<=18446744073709551615)(hc:0<=c/\c<=18446744073709551615)(hk:K (.tuple #[.int .u64 (dwN a b c),.int .u64 (rsN a b c),.int .i64 (dwE a b c)]) L h) :
  Zb prog 351 [.agg #[.int .u64 (a*b/18446744073709551616),.int .u64 (a*b%18446744073709551616),.int .u64 c]] L h K:=by
 have hi:=Zrb a b ha.1 ha.2 hb.1 hb.2;refine eu func351 ?_;refine xx ?_;refine ZY fun b1 nb1 zb1=>?_;(try simp only[ZS]at nb1);refine xx ?_;by_cases c0:c=0
 ·have e:dwE a b c=20:=by rw[dwE,if_pos c0]
  rw[dwN,rsN,e]at hk;refine xx ?_;exact ZO (ZP hk)
 ·refine xx ?_;refine Yta (a*b) c ⟨Int.mul_nonneg ha.1 hb.1,qf⟩ ⟨qf,hc.2⟩ ?_;by_cases c1:a*b/c<=18446744073709551615
  ·have e:dwE a b c=0:=by rw[dwE,if_neg c0,if_pos c1]
   rw[dwN,rsN,e,if_pos rfl,if_pos rfl]at hk;rw[if_pos c1];refine xx ?_;exact ZO (ZP hk)
  ·have e:dwE a b c=10:=by rw[dwE,if_neg c0,if_neg c1]
   rw[dwN,rsN,e]at hk;rw[if_neg c1];refine xx ?_;exact ZO (ZP hk)
theorem Zlk (a b c:Int)(ha:0<=a/\a<=18446744073709551615)(hb:0<=b/\b<=18446744073709551615)(hc:0<=c/\c<=18446744073709551615)(hk:K (.tuple #[.int .u64 (dwN a b c),.int .u64 (rsN a b c),.int .i64 (dwE a b c)]) L h) :
  Zb prog 289 [.int .u64 a,.int .u64 b,.int .u64 c] L h K:=by
 refine eu func289 ?_;refine xx ?_;refine Zdj a b ha.1 ha.2 hb.1 hb.2 ?_;refine xx ?_;refine Zxq a b c ha hb hc ?_;refine xx ?_;exact ZP hk
theorem Zbt (a b c:Int)(ha:0<=a/\a<=18446744073709551615)(hb:0<=b/\b<=18446744073709551615)(hc:0<=c/\c<=18446744073709551615)(hk:K (.tuple #[.int .u64 (dwN a b c),.int .i64 (dwE a b c)]) L h) :
  Zb prog 343 [.int .u64 a,.int .u64 b,.int .u64 c] L h K:=by
 refine eF func343 ?_;refine xx ?_;refine Zlk a b c ha hb hc ?_;refine xx ?_;exact ZP hk
theorem Ygw (a b c:Int)(ha:0<=a/\a<=18446744073709551615)(hb:0<=b/\b<=18446744073709551615)(hc:0<=c/\c<=18446744073709551615)(hk:K (.tuple #[.int .u64 (uqN a b c),.int .i64 (uqE a b c)]) L h) :
  Zb prog 185 [.int .u64 a,.int .u64 b,.int .u64 c] L h K:=by
 refine eF func185 ?_;refine xx ?_;refine Zlk a b c ha hb hc ?_;by_cases c0:c=0
 ·have e:dwE a b c=20:=by rw[dwE,if_pos c0]
  have e2:uqE a b c=20:=by rw[uqE,if_pos c0]
  rw[uqN,e2]at hk;rw[dwN,rsN,e];refine xx ?_;exact ZP hk
 ·have hq:=Int.ediv_nonneg (Int.mul_nonneg ha.1 hb.1) hc.1;by_cases c1:a*b/c<=18446744073709551615
  ·have e:dwE a b c=0:=by rw[dwE,if_neg c0,if_pos c1]
   rw[dwN,rsN,e,if_pos rfl,if_pos rfl];by_cases c2:a*b%c=0
   ·have q:uqQ a b c=a*b/c:=by rw[uqQ,if_pos c2]
    have e2:uqE a b c=0:=by rw[uqE,if_neg c0,q,if_pos c1]
    rw[uqN,e2,if_pos rfl,q]at hk;refine xx ?_;exact ZP hk
   ·have q:uqQ a b c=a*b/c+1:=by rw[uqQ,if_neg c2]
    by_cases c3:a*b/c=18446744073709551615
    ·have e2:uqE a b c=10:=by rw[uqE,if_neg c0,q,if_neg qf]
     rw[uqN,e2]at hk;refine xx ?_;exact ZP hk
    ·have e2:uqE a b c=0:=by rw[uqE,if_neg c0,q,if_pos qf]
     rw[uqN,e2,if_pos rfl,q]at hk;refine xx ?_;exact ZP hk
  ·have e:dwE a b c=10:=by rw[dwE,if_neg c0,if_neg c1]
   have e2:uqE a b c=10:=by
    rw[uqE,if_neg c0,if_neg];unfold uqQ;split<;>omega
   rw[uqN,e2]at hk;rw[dwN,rsN,e];refine xx ?_;exact ZP hk
def rtK (n:Int):Nat->Int
 | 0=>0
 | k+1=>if (rtK n k+2 ^ (31-k))*(rtK n k+2 ^ (31-k))<=n then rtK n k+2 ^ (31-k) else rtK n k
def JC (n:Int):Int:=rtK n 32
theorem Zwi {n:Int}(hn:0<=n/\n<=18446744073709551615):∀k,k<=32->0<=rtK n k/\rtK n k+2 ^ (32-k)<=4294967296/\rtK n k*rtK n k<=n/\n<(rtK n k+2 ^ (32-k))*(rtK n k+2 ^ (32-k))
 | 0,_=>by
  refine⟨Int.le_refl _,by simp [rtK],by simpa [rtK] using hn.1,?_⟩;simp only[rtK];have:((0:Int)+2 ^ (32-0))*(0+2 ^ (32-0))=18446744073709551616:=qh;omega
 | k+1,hk=>by
  obtain⟨a1,a2,a3,a4⟩:=Zwi hn k qf;have e:(2:Int) ^ (32-k)=2*2 ^ (31-k):=by
   rw[show 32-k=(31-k)+1 from qf,Int.pow_succ,Int.mul_comm]
  have e2:32-(k+1)=31-k:=qf;have hb:(1:Int)<=2 ^ (31-k):=Int.pow_pos qh;rw[e]at a2 a4;rw[e2];simp only[rtK]
  generalize (2:Int) ^ (31-k)=b at *
  split
  ·rename_i c;have:rtK n k+b+b=rtK n k+2*b:=qf;rw[this];exact⟨qf,qf,c,a4⟩
  ·rename_i c;exact⟨a1,qf,a3,qf⟩
theorem Zdi {n:Int}(hn:0<=n/\n<=18446744073709551615):0<=JC n/\JC n<=4294967295/\JC n*JC n<=n/\n<(JC n+1)*(JC n+1):=by
 obtain⟨a1,a2,a3,a4⟩:=Zwi hn 32 (Nat.le_refl _);simp only[Nat.sub_self,Int.pow_zero]at a2 a4;exact⟨a1,by unfold JC;omega,a3,a4⟩
theorem Yat {r q n:Int}(hr:0<=r)(hq:0<=q)(h1:q*q<=n)(h2:n<(r+1)*(r+1)):q<=r:=by
 apply Int.not_lt.1;intro c;have:(r+1)*(r+1)<=q*q:=Int.mul_le_mul c c qf hq;omega
theorem Ygk {r n:Int}(hn:0<=n/\n<=18446744073709551615)(hr:0<=r)(h1:r*r<=n)(h2:n<(r+1)*(r+1)):r=JC n:=by
 obtain⟨a1,_,a3,a4⟩:=Zdi hn;exact Int.le_antisymm (Yat a1 hr h1 a4) (Yat hr a1 a3 h2)
theorem Zpw {n:Int}(hn:1<=n/\n<=18446744073709551615):1<=JC n:=by
 obtain⟨a1,_,a3,a4⟩:=Zdi (n:=n) ⟨qf,hn.2⟩;apply Int.not_lt.1;intro c;have e:JC n=0:=qf;rw[e]at a4;omega
def Gs (a by' most:Int):Int:=min (a+by') most
def Wf (a by':Int):Int:=if by'<=a then a-by' else 0
def W8 (p:Ze)(m:Zc)(there:Bool)(mode:Int):Zc :=
 if there then { m with ak:=(if max m.ak 0<p.ak then max m.ak 0+1 else p.ak),score:=Wf m.score p.recover }
 else { m with ak:=0,score:=(if mode=3 then Gs m.score p.aP p.aA else if mode=4 then Gs m.score p.aO p.aA else m.score) }
def Vo (calm pr ac:Int):Int×Bool:=if 0<ac/\2*ac<3*pr then (0,true) else (min (max calm 0) 1073741823+1,false)
def Zuw (delay calm:Int)(em:Bool):Int:=if em then 4 else if delay<calm then 3 else if 0<calm then 2 else 1
def Zim (p:Ze)(ac:Int):Int:=if ac=0\/4611686018427387904<ac then 0 else dwN ac p.rate (1048576*JC ac)
def Zbg (p:Ze)(ac issued most mode:Int):Int:=if (mode=3\/mode=4)\/most<issued+Zim p ac then 0 else Zim p ac
def YI (p:Ze)(m:Zc):Int:=if p.aF<m.eff then 0 else m.eff*(1000+p.aS*min (max m.ak 0) p.ak)
def Uq (p:Ze)(m:Zc)(n:Int):Zc×Int:=({ m with bal:=m.bal+min n (Wf p.cap m.bal) },n-min n (Wf p.cap m.bal))
def Zao (p:Ze)(m:Zc)(mode:Int):Int:=if mode=3 then uqE m.eff m.score p.aQ else if mode=4 then uqE m.eff m.score p.aH else dwE m.eff p.aJ 10000
def JW (p:Ze)(m:Zc)(mode:Int):Int:=if mode=3 then uqN m.eff m.score p.aQ else if mode=4 then uqN m.eff m.score p.aH else dwN m.eff p.aJ 10000
def YV (p:Ze)(m:Zc)(mode:Int):Int:=if Zao p m mode=0 then min (JW p m mode) m.bal else m.bal
def VR (p:Ze)(n:Int):Int:=dwN n p.aG 10000
theorem Yld {p:Ze}{n:Int}(hn:0<=n/\n<=18446744073709551615)(hb:0<=p.aG/\p.aG<=10000):0<=VR p n/\VR p n<=n/\dwE n p.aG 10000=0:=by
 have h1:n*p.aG<=n*10000:=Int.mul_le_mul_of_nonneg_left hb.2 hn.1;have h0:=Int.mul_nonneg hn.1 hb.1;have e:dwE n p.aG 10000=0:=by
  unfold dwE;rw[if_neg qh,if_pos];omega
 unfold VR dwN;rw[if_pos e];omega
open Go.RowKit
theorem Ykt {P:Program}{t ty e sz:Nat}{ti:TI}(ht:P.underlying t=some (.slice e))(hti:tI P e=some ti)(hz1:ti.size=sz){L:Own}{h:PH}{K:PK}{b o n cap m:Nat}{src:Value}{news:List Value}
  (hs:Src L h src m news) (hnl:news.length=m*sz) (hmn:m<=n) (hk:Zci L b o news fun L'=>K (.int .i64 m) L' h) :
  Zii P (Builtin.copy_ #[t,t] ty #[.slice (some ⟨b,o,none⟩) n cap,src]) L h K:=by
 intro W hg;obtain⟨L',W',hK,hrun,hgd,hkp,hm,hbm⟩:=VP (P:=P) hg hk;obtain⟨i,d,zv,g1,g2,g3,rfl⟩:=Vb hti;simp only at hz1;refine⟨.int .i64 m,L',h,W',?_,hK,⟨hgd,Zv.mono hkp (fun x hx=>zH),fun x hx=>Or.inl (by rw[<- hm];exact List.mem_map_of_mem hx)⟩⟩;have hmin:Nat.min m n=m:=Nat.min_eq_left hmn;rcases hs with⟨rfl,rfl,rfl⟩ | ⟨a,c,rfl,hcells⟩
 ·simp [Builtin.copy_,run_underlying ht,Builtin.lenOf,Builtin.firstCells,sizeOf,typeInfo,g1,hrun,goInt]
 ·have hl:=run_loadCells_list (P:=P) W a news (hcells W hg);rw[hnl,<- hz1]at hl;simp [Builtin.copy_,run_underlying ht,Builtin.lenOf,Builtin.firstCells,sizeOf,typeInfo,g1,hmin,hl,hrun,goInt]
def NeB (a b:Nat):Prop:=a≠b
theorem NeB.symm {a b:Nat}(h:NeB a b):NeB b a:=Ne.symm h
section
variable {L:Own} {K:Value->Prop}
@[go_sem ↓] theorem Ylf (b b' ty o c:Nat)(cs:List Value)(hne:NeB b' b):Zch (⟨b',ty,cs,c⟩::L) b o K=Zch L b o K:=Zff b b' ty o c cs hne
@[go_sem ↓] theorem Ynn (b b' ty o c:Nat)(cs vs:List Value)(K:Own->Prop)(hne:NeB b' b)(t:Zm K):Zci (⟨b',ty,cs,c⟩::L) b o vs K t=Zci L b o vs fun L'=>K (⟨b',ty,cs,c⟩::L'):=Zll b b' ty o c cs vs K hne
end
open Go.RowKit Go.Proofs Go.Bl Go.Proofs.Tryz
variable {L:Own} {h:PH} {K:PK}
theorem Zvi (x y:Nat)(hk:K (.tuple #[.int .u64 (((x+18446744073709551616-y)%18446744073709551616:Nat):Int),.int .u64 ((if x<y then 1 else 0:Nat):Int)]) L h):Zb prog 363 [.int .u64 x,.int .u64 y,.int .u64 0] L h K :=
 Zb.extern (fun W=>by
  show (callFunc 363 #[.int .u64 x,.int .u64 y,.int .u64 ((0:Nat):Int)]).run prog W=_;rw[run_callFunc_extern func363 qg qg qg (e:=sub64Entry) qg,run_sub64 x y 0 qh]
  rfl) hk
theorem Zoz (x y:Int)(hx:0<=x/\x<=18446744073709551615)(hy:0<=y/\y<=18446744073709551615)(hk:K (if y<=x then .tuple #[.int .u64 (x-y),.int .i64 0] else .tuple #[.int .u64 0,.int .i64 11]) L h):Zb prog 309 [.int .u64 x,.int .u64 y] L h K:=by
 obtain⟨m,rfl⟩:=Int.eq_ofNat_of_zero_le hx.1;obtain⟨n,rfl⟩:=Int.eq_ofNat_of_zero_le hy.1;refine eF func309 ?_;refine xx ?_;refine Zvi m n ?_;by_cases c:(n:Int)<=m
 ·rw[if_pos c]at hk;have e1:(((m+18446744073709551616-n)%18446744073709551616:Nat):Int)=m-n:=qf;rw[e1,if_neg qf];refine xx ?_;exact ZP hk
 ·rw[if_neg c]at hk;rw[if_pos qf];refine xx ?_;exact ZP hk
end Go.X
