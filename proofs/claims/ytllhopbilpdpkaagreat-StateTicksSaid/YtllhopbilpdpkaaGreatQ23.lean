/- Lemmas and contracts. Conditions: as each says. -/
import Derived.Test.YtllhopbilpdpkaaGreatQ20
set_option linter.unusedVariables false
set_option linter.unusedSimpArgs false
set_option maxHeartbeats 12800000
set_option maxRecDepth 20000
namespace Go.X
open Go.RowKit Go.Proofs Go.Bl Go.Proofs.Tryz
variable {L:Own} {h:PH} {K:PK}
theorem Vy {α:Type}{f:α->List Value}(h1:∀a,∀u∈f a,u.oneCell'=true)(l:List α):∀u∈l.flatMap f,u.oneCell'=true:=fun u hu=>by
 obtain⟨a,_,hb⟩:=List.mem_flatMap.1 hu;exact h1 a u hb
theorem Zbs (m:Zc):∀u∈YD m,u.oneCell'=true:=fun u hu=>by
 simp only[YD,List.mem_cons,List.not_mem_nil,or_false]at hu;rcases hu with rfl|rfl|rfl|rfl|rfl|rfl<;>rfl
theorem Ygd (m:Zk):∀u∈UK m,u.oneCell'=true:=fun u hu=>by
 simp only[UK,List.mem_cons,List.not_mem_nil,or_false]at hu;rcases hu with rfl|rfl|rfl|rfl<;>rfl
theorem Ug (m:Zh):∀u∈Yh m,u.oneCell'=true:=fun u hu=>by
 simp only[Yh,List.mem_cons,List.not_mem_nil,or_false]at hu;rcases hu with rfl|rfl|rfl<;>rfl
theorem Zdb {v:Value}{h:PH}{k:IntKind}{xs:List Int}(hx:Ints h k v xs):v.oneCell'=true:=by
 obtain⟨a,c,rfl,_⟩:=hx.open
 rfl
theorem Zpp {h:PH}{q:QM}(hq:Zr h q):∀u∈YQ q,u.oneCell'=true:=fun u hu=>by
 have h1:=Zdb hq.y;have h2:=Zdb hq.n;simp only[YQ,Jj,List.mem_cons,List.mem_append,List.not_mem_nil,or_false]at hu;rcases hu with rfl|rfl|hu|hu
 ·rfl
 ·rfl
 ·obtain rfl|rfl|rfl|rfl|rfl|rfl|rfl|rfl|rfl|rfl|rfl|rfl|rfl|rfl|rfl|rfl|rfl|rfl|rfl|rfl|rfl|rfl|rfl|rfl:=hu<;>rfl
 ·rcases hu with rfl|rfl|rfl|rfl|rfl|rfl|rfl
  ·rfl
  ·rfl
  ·rfl
  ·rfl
  ·rfl
  ·exact h1
  ·exact h2
theorem Zex {l:List Zc}(v:Value)(hv:Zd YD 6 h v l)(hl:l.length<=1000)(hk:∀o,okO o l.length->apO o L h->K (ovs o l.length) (oent 74 6 o (l.flatMap YD) L) h):Zb prog 99 [v] L h K:=by
 have hx:=hv;obtain⟨a,ca,rfl,hna,hca,h0,_⟩:=hx.open;refine ed func99 ?_;refine xx ?_
 cases ha:a.isNone with
 | true =>
  have ha':a=none:=qP;subst ha';have hl0:l.length=0:=by have:=h0 rfl;omega
  have hx':l=[]:=List.eq_nil_of_length_eq_zero hl0;subst hx';refine xx ?_;exact ZP (hk none rfl trivial)
 | false =>
  refine xx ?_;refine ZY fun b1 nb1 zb1=>?_;(try simp only[ZS]at nb1);refine xx ?_;refine ZZ (t:=26) (e:=74) (sz:=6) (bytes:=48) qg Yer rfl rfl rfl rfl qh [] L (some (b1,0)) 0 [] ⟨Nat.le_refl _,Nat.zero_le _⟩ rfl (Src.known hx.s) (news:=l.flatMap YD) (Z1 Z8 l) (Vy Zbs l) qm qf ?_;intro o' j1 j2 j3;simp only[Nat.zero_add,List.nil_append]at j1 j2 ⊢;refine xx ?_;exact ZP (hk o' j1 j2)
theorem Zsh {l:List Int}(v:Value)(hv:Ints h .i64 v l)(hl:l.length<=1000)(hk:∀h' r,PH.le h h'->Ints h' .i64 r l->K r L h'):Zb prog 100 [v] L h K:=by
 have hx:=hv;obtain⟨a,ca,rfl,hna,hca,h0,_⟩:=hx.open;refine ed func100 ?_;refine xx ?_
 cases ha:a.isNone with
 | true =>
  have ha':a=none:=qP;subst ha';have hl0:l.length=0:=by have:=h0 rfl;omega
  have hx':l=[]:=List.eq_nil_of_length_eq_zero hl0;subst hx';refine xx ?_;exact ZP (hk h _ (PH.le_refl h) (Y7 h .i64))
 | false =>
  refine xx ?_;refine ZY fun b1 nb1 zb1=>?_;(try simp only[ZS]at nb1);refine xx ?_;refine ZZ (t:=27) (e:=3) (sz:=1) (bytes:=8) qg V6 rfl rfl rfl rfl qh [] L (some (b1,0)) 0 [] ⟨Nat.le_refl _,Nat.zero_le _⟩ rfl (Src.known hx.1) (news:=l.map (Value.int .i64)) qj (Vr _ _) qm qf ?_;intro o' j1 j2 j3;simp only[Nat.zero_add,List.nil_append]at j1 j2 ⊢;refine xx ?_;exact Yv (e:=3) (sz:=1) (n:=l.length) j1 qj qf j2 fun h' le sl=>ZP (hk h' _ le ⟨sl,hx.2⟩)
theorem Zae {l:List Int}(v:Value)(hv:Ints h .i64 v l)(hl:l.length<=1000)(hk:∀o,okO o l.length->apO o L h->K (ovs o l.length) (oent 3 1 o (l.map (.int .i64)) L) h):Zb prog 100 [v] L h K:=by
 have hx:=hv;obtain⟨a,ca,rfl,hna,hca,h0,_⟩:=hx.open;refine ed func100 ?_;refine xx ?_
 cases ha:a.isNone with
 | true =>
  have ha':a=none:=qP;subst ha';have hl0:l.length=0:=by have:=h0 rfl;omega
  have hx':l=[]:=List.eq_nil_of_length_eq_zero hl0;subst hx';refine xx ?_;exact ZP (hk none rfl trivial)
 | false =>
  refine xx ?_;refine ZY fun b1 nb1 zb1=>?_;(try simp only[ZS]at nb1);refine xx ?_;refine ZZ (t:=27) (e:=3) (sz:=1) (bytes:=8) qg V6 rfl rfl rfl rfl qh [] L (some (b1,0)) 0 [] ⟨Nat.le_refl _,Nat.zero_le _⟩ rfl (Src.known hx.1) (news:=l.map (Value.int .i64)) qj (Vr _ _) qm qf ?_;intro o' j1 j2 j3;simp only[Nat.zero_add,List.nil_append]at j1 j2 ⊢;refine xx ?_;exact ZP (hk o' j1 j2)
theorem Zfs {l:List Zk}(v:Value)(hv:Zd UK 4 h v l)(hl:l.length<=1000)(hk:∀h' r,PH.le h h'->Zd UK 4 h' r l->K r L h'):Zb prog 101 [v] L h K:=by
 have hx:=hv;obtain⟨a,ca,rfl,hna,hca,h0,_⟩:=hx.open;refine ed func101 ?_;refine xx ?_
 cases ha:a.isNone with
 | true =>
  have ha':a=none:=qP;subst ha';have hl0:l.length=0:=by have:=h0 rfl;omega
  have hx':l=[]:=List.eq_nil_of_length_eq_zero hl0;subst hx';refine xx ?_;exact ZP (hk h _ (PH.le_refl h) (Zd.nil VM h))
 | false =>
  refine xx ?_;refine ZY fun b1 nb1 zb1=>?_;(try simp only[ZS]at nb1);refine xx ?_;refine ZZ (t:=28) (e:=164) (sz:=4) (bytes:=32) qg Zgf rfl rfl rfl rfl qh [] L (some (b1,0)) 0 [] ⟨Nat.le_refl _,Nat.zero_le _⟩ rfl (Src.known hx.s) (news:=l.flatMap UK) (Z1 VM l) (Vy Ygd l) qm qf ?_;intro o' j1 j2 j3;simp only[Nat.zero_add,List.nil_append]at j1 j2 ⊢;refine xx ?_;exact Yv (e:=164) (sz:=4) (n:=l.length) j1 (Z1 VM l) qf j2 fun h' le sl=>ZP (hk h' _ le (Zd.pub hx.len sl))
theorem G6 {l:List Zh}(v:Value)(hv:Zd Yh 3 h v l)(hl:l.length<=34000)(hk:∀h' r,PH.le h h'->Zd Yh 3 h' r l->K r L h'):Zb prog 102 [v] L h K:=by
 have hx:=hv;obtain⟨a,ca,rfl,hna,hca,h0,_⟩:=hx.open;refine ed func102 ?_;refine xx ?_
 cases ha:a.isNone with
 | true =>
  have ha':a=none:=qP;subst ha';have hl0:l.length=0:=by have:=h0 rfl;omega
  have hx':l=[]:=List.eq_nil_of_length_eq_zero hl0;subst hx';refine xx ?_;exact ZP (hk h _ (PH.le_refl h) (Zd.nil Yd h))
 | false =>
  refine xx ?_;refine ZY fun b1 nb1 zb1=>?_;(try simp only[ZS]at nb1);refine xx ?_;refine ZZ (t:=29) (e:=167) (sz:=3) (bytes:=24) qg Jb rfl rfl rfl rfl qh [] L (some (b1,0)) 0 [] ⟨Nat.le_refl _,Nat.zero_le _⟩ rfl (Src.known hx.s) (news:=l.flatMap Yh) (Z1 Yd l) (Vy Ug l) qm qf ?_;intro o' j1 j2 j3;simp only[Nat.zero_add,List.nil_append]at j1 j2 ⊢;refine xx ?_;exact Yv (e:=167) (sz:=3) (n:=l.length) j1 (Z1 Yd l) qf j2 fun h' le sl=>ZP (hk h' _ le (Zd.pub hx.len sl))
theorem Zab {l:List QM}(v:Value)(hv:Zd YQ 33 h v l)(hm:∀x∈l,Zr h x)(hl:l.length<=1000)(hk:∀o,okO o l.length->apO o L h->K (ovs o l.length) (oent 120 33 o (l.flatMap YQ) L) h):Zb prog 103 [v] L h K:=by
 have hx:=hv;obtain⟨a,ca,rfl,hna,hca,h0,_⟩:=hx.open;refine ed func103 ?_;refine xx ?_
 cases ha:a.isNone with
 | true =>
  have ha':a=none:=qP;subst ha';have hl0:l.length=0:=by have:=h0 rfl;omega
  have hx':l=[]:=List.eq_nil_of_length_eq_zero hl0;subst hx';refine xx ?_;exact ZP (hk none rfl trivial)
 | false =>
  refine xx ?_;refine ZY fun b1 nb1 zb1=>?_;(try simp only[ZS]at nb1);refine xx ?_;refine ZZ (t:=30) (e:=120) (sz:=33) (bytes:=296) qg Yio rfl rfl rfl rfl qh [] L (some (b1,0)) 0 [] ⟨Nat.le_refl _,Nat.zero_le _⟩ rfl (Src.known hx.s) (news:=l.flatMap YQ) (Z1 Ya l) (fun u hu=>by obtain⟨a,hq,hb⟩:=List.mem_flatMap.1 hu;exact Zpp (hm a hq) u hb) qm qf ?_;intro o' j1 j2 j3;simp only[Nat.zero_add,List.nil_append]at j1 j2 ⊢;refine xx ?_;exact ZP (hk o' j1 j2)
theorem Zen {l:List QS}(v:Value)(hv:Zx h v l)(hl:l.length<=1000)(hk:∀o,okO o l.length->apO o L h->K (ovs o l.length) (oent 31 1 o (vsL l) L) h):Zb prog 105 [v] L h K:=by
 have hx:=hv;obtain⟨a,ca,rfl,hna,hca,h0,_⟩:=hx.open;refine ed func105 ?_;refine xx ?_
 cases ha:a.isNone with
 | true =>
  have ha':a=none:=qP;subst ha';have hl0:l.length=0:=by have:=h0 rfl;omega
  have hx':l=[]:=List.eq_nil_of_length_eq_zero hl0;subst hx';refine xx ?_;exact ZP (hk none rfl trivial)
 | false =>
  refine xx ?_;refine ZY fun b1 nb1 zb1=>?_;(try simp only[ZS]at nb1);refine xx ?_;refine ZZ (t:=32) (e:=31) (sz:=1) (bytes:=24) qg Zvo rfl rfl rfl rfl qh [] L (some (b1,0)) 0 [] ⟨Nat.le_refl _,Nat.zero_le _⟩ rfl (Src.known hx.s) (news:=vsL l) (by simp [vsL]) (fun u hu=>by obtain⟨q,hq,rfl⟩:=List.mem_map.1 hu;exact Zdb (hv.d q hq)) qm qf ?_;intro o' j1 j2 j3;simp only[Nat.zero_add,List.nil_append]at j1 j2 ⊢;refine xx ?_;exact ZP (hk o' j1 j2)
theorem Yma {i j w m m':Nat}(hm:m<w)(hm':m'<w)(hij:i≠j):i*w+m≠j*w+m':=fun e=>by
 rcases Nat.lt_or_gt_of_ne hij with c|c
 ·have:=Nat.mul_le_mul_right w (show i+1<=j from c);rw[Nat.succ_mul]at this;omega
 ·have:=Nat.mul_le_mul_right w (show j+1<=i from c);rw[Nat.succ_mul]at this;omega
theorem YC {i n w m:Nat}(hi:i<n)(hm:m<w):i*w+m<n*w:=by
 have:=Nat.mul_le_mul_right w (show i+1<=n from hi);rw[Nat.succ_mul]at this;omega
theorem Wj {α:Type}{f:α->List Value}{w:Nat}(hf:∀a,(f a).length=w)(z:α)(l:List α){i m:Nat}(hi:i<l.length)(hm:m<w){u:Value}{a':α}(ha:f a'=(f (gr z l i)).set m u):(l.flatMap f).set (i*w+m) u=(l.set i a').flatMap f:=by
 apply List.ext_getElem?;intro n;obtain⟨j,m',rfl,hm'⟩:∃j m',n=j*w+m'/\m'<w:=⟨n/w,n%w,by rw[Nat.mul_comm,Nat.div_add_mod],Nat.mod_lt _ qf⟩
 rw[UG hf _ j m' hm',List.getElem?_set,UG hf _ j m' hm',List.getElem?_set];by_cases e:i=j
 ·subst e;have hll:i*w+m<(l.flatMap f).length:=by rw[Z1 hf];exact YC hi hm
  rw[if_pos rfl,if_pos hi];show _=(f a')[m']?;rw[ha,List.getElem?_set,Ye hi];by_cases e2:m=m'
  ·subst e2;rw[if_pos rfl,if_pos hll,if_pos rfl,if_pos (by rw[hf];exact hm)]
  ·rw[if_neg qf,if_neg e2,List.getElem?_eq_getElem hi]
   rfl
 ·rw[if_neg (Yma hm hm' e),if_neg e]
theorem Yu {α:Type}{f:α->List Value}{w:Nat}(hf:∀a,(f a).length=w)(z:α)(l:List α){i m:Nat}(hi:i<l.length)(hm:m<w){u:Value}(hu:(f (gr z l i))[m]?=some u)(K:Value->Prop)(t:Zm K):VE (l.flatMap f) (i*w+m) K t=K u :=
 Zmf (by rw[UG hf l i m hm,List.getElem?_eq_getElem hi,<- Ye (z:=z) hi];exact hu)
theorem Z2 {e sz:Nat}(o:Option (Nat×Nat))(xs:List Value){L L':Own}(hp:L.Perm L'):(oent e sz o xs L).Perm (oent e sz o xs L'):=by
 cases o with
 | none=>exact hp
 | some p=>exact List.Perm.cons _ hp
theorem Zsd {e sz e2 sz2:Nat}{o o2:Option (Nat×Nat)}{xs ys:List Value}{x y:Zn}{L:Own}{h:PH}:Za (oent e sz o xs (oent e2 sz2 o2 ys (x::y::L))) h (oent e sz o xs (oent e2 sz2 o2 ys L)) h:=by
 have p1:(x::y::oent e sz o xs (oent e2 sz2 o2 ys L)).Perm (oent e sz o xs (x::y::oent e2 sz2 o2 ys L)):=Z6 [x,y];have p2:=Z2 (e:=e) (sz:=sz) o xs (Z6 (e:=e2) (sz:=sz2) (o:=o2) (xs:=ys) [x,y] (L:=L));exact(Za.perm h (p1.trans p2).symm).trans ((Za.tail _ _ _).trans (Za.tail _ _ _))
def Yic (h:PH)(q:List QS):Prop:=∀p∈q,Ints h .u8 p.1 p.2
def YU (h:PH)(q:List QM):Prop:=∀x∈q,Zr h x
def noMX (s:Zg):Zg:={ s with ae:=[],exit:=[] }
structure Zu (s:Zg):Prop where
 p:s.ag.length<=1000
 m:s.ae.length<=1000
 e:s.entry.length<=1000
 x:s.exit.length<=1000
 o:s.aj.length<=1000
 d:s.ai.length<=34000
 t:s.ah.length<=1000
 k:s.marks.length<=1000
 r:s.ring.length<=1000
 v:∀m∈s.ah,m.yes.length<=1000/\m.no.length<=1000
 b:∀b∈s.ring,b.length<=1000
abbrev setM (u:SV)(m:Value):SV:=⟨u.p,m,u.e,u.x,u.o,u.d,u.t,u.k,u.r⟩
abbrev Yca (u:SV)(m x:Value):SV:=⟨u.p,m,u.e,x,u.o,u.d,u.t,u.k,u.r⟩
theorem Zwc {s:Zg}(v:SV)(hs:Zp h v s)(few:Zu s)
    (hk:∀(h':PH) (u:SV) (o ox:Option (Nat×Nat)),PH.le h h'->okO o s.ae.length->okO ox s.exit.length->Zp h' (Yca u (.slice none 0 0) (.slice none 0 0)) (noMX s)->K (stV s (Yca u (ovs o s.ae.length) (ovs ox s.exit.length))) (oent 3 1 ox (s.exit.map (.int .i64)) (oent 74 6 o (s.ae.flatMap YD) L)) h'):Zb prog 30 [stV s v] L h K:=by
  obtain⟨pa,pc,ma,mc,ea,ec,xa,xc,oa,oc,da,dc,ta,tc,ka,kc,ra,rc,rfl⟩:=hs.slices;have fm:=few.m;have fp:=few.p;have fe:=few.e;have fx:=few.x;have fo:=few.o;have fd:=few.d;have ft:=few.t;have fk:=few.k;have fr:=few.r;obtain⟨ql,q1,q2,q3⟩:=hs.t;obtain⟨rl,r1,r2⟩:=hs.r;have q1':Zd YQ 33 h (.slice ta s.ah.length tc) ql:=q1;have r1':Zx h (.slice ra s.ring.length rc) rl:=r1;have hql:ql.length=s.ah.length:=by rw[<- q2,List.length_map]
  have hrl:rl.length=s.ring.length:=by rw[<- r2];simp [xsL]
  refine ed func30 ?_;refine xx ?_;refine ZY fun b1 nb1 zb1=>?_;(try simp only[ZS]at nb1);refine xx ?_;refine ZY fun b2 nb2 zb2=>?_;(try simp only[ZS]at nb2);refine xx ?_;refine Zb.ap (Gj _ hs.p qf fun h1 v1 le1 i1 ap=>?_);simp only[Ap]at ap;obtain⟨a12,a11,_⟩:=ap;obtain⟨pa1,pc1,rfl,_⟩:=i1.open;refine xx ?_;refine Zex _ (hs.m.up le1) qf fun om ok1 am1=>?_;have m2:apB om b2:=am1.head;have m1:apB om b1:=(ZV am1).head;refine fC ?_;refine Z4 (.tk 0 (.tk 3 (.tkl 1 (.tkl 4 (.o1 2 (.tk 6 (.o1 5 (.o2 7 (.tk 8 (.o2 9 (.fin) (.nil))) (.nil)) (.nil))) (.nil)))))) qg qg _ (Za.refl _ _) ?_;refine fC ?_;refine Zb.ap (Zsh _ (hs.e.up le1) qf fun h2 v2 le2 i2 ap=>?_);obtain⟨a22,a21,_⟩:=Ap.oent ap;obtain⟨ea1,ec1,rfl,_⟩:=i2.open;refine xkp (Za.forget le2) ?_;refine fC ?_;refine Zae _ (hs.x.up (le1.trans le2)) qf fun ox okx amx=>?_;have amx0:=YH amx;have x2:apB ox b2:=amx0.head;have x1:apB ox b1:=(ZV amx0).head;obtain⟨xa1,xc1,exx,_⟩:=Z5 okx;rw[exx]
  first
  | refine xkp ((Za.oent _ _ _ _ _ _).trans (Za.forget le2)) ?_
  | refine xkp (Za.oent _ _ _ _ _ _) ?_
  | skip
  refine fD ?_;refine Z4 (.tk 0 (.tk 3 (.tkl 1 (.tkl 4 (.o1 2 (.tk 6 (.o1 5 (.o2 7 (.tk 8 (.o2 9 (.fin) (.nil))) (.nil)) (.nil))) (.nil)))))) qg qg _ (Za.refl _ _) ?_;refine fD ?_;have le13:=le1.trans le2;refine Zb.ap (Zfs _ (hs.o.up le13) qf fun h4 v4 le4 i4 ap=>?_);obtain⟨a42,a41,_⟩:=Ap.oent (Ap.oent ap);obtain⟨oa1,oc1,rfl,_⟩:=i4.open;refine xkp (Za.forget le4) ?_;refine fD ?_;have le14:=le13.trans le4;refine Zb.ap (G6 _ (hs.d.up le14) qf fun h5 v5 le5 i5 ap=>?_);obtain⟨a52,a51,_⟩:=Ap.oent (Ap.oent ap);obtain⟨da1,dc1,rfl,_⟩:=i5.open
  first
  | refine xkp (Za.forget (le4.trans le5)) ?_
  | skip
  refine fD ?_;have le15:=le14.trans le5;refine Zab _ (q1'.up le15) (fun x hx=>(q3 x hx).up le15) qf fun ot ok2 at0'=>?_;rw[hql]at ok2 ⊢;have at1:=YH (YH at0');have t2:apB ot b2:=at1.head;have t1:apB ot b1:=(ZV at1).head
  replace at1:=ZV (ZV at1)
  refine fE ?_;obtain⟨mta,mtc,emt,_⟩:=Z5 ok2;rw[emt];refine xx ?_;obtain⟨vv,hvv⟩:∃vv:SV,vv=⟨.slice pa1 s.ag.length pc1,ovs om s.ae.length,.slice ea1 s.entry.length ec1,.slice xa1 s.exit.length xc1,.slice oa1 s.aj.length oc1,.slice da1 s.ai.length dc1,.slice mta s.ah.length mtc,.slice ka s.marks.length kc,.slice ra s.ring.length rc⟩:=⟨_,rfl⟩
  refine Yi (γ:=Nat×List QM×PH) (0,ql,h5)
    (fun q=>q.1<=s.ah.length/\q.2.1.map (fun x=>x.2.2)=s.ah/\YU q.2.2 q.2.1/\PH.le h5 q.2.2/\q.2.2 b2=noC/\q.2.2 b1=noC/\apO ot L q.2.2)
    (fun q=>[(36,.int .i64 q.1),(35,.int .i64 s.ah.length),(1,.pointer (some ⟨b1,0,none⟩)),(2,.pointer (some ⟨b2,0,none⟩))])
    (fun q=>oent 120 33 ot (q.2.1.flatMap YQ) (oent 3 1 ox (s.exit.map (.int .i64)) (oent 74 6 om (s.ae.flatMap YD) (⟨b2,34,stC JB Zlm,41⟩::⟨b1,34,stC s vv,41⟩::L)))) (fun q=>q.2.2) (fun q=>s.ah.length-q.1) ?_ ?_ ?_ ?_
  · exact⟨Nat.zero_le _,q2,fun x hx=>(q3 x hx).up le15,PH.le_refl _,a52,a51,at1⟩
  · simp [Ent,List.lookup,YT]
  · subst hvv;exact Za.refl _ _
  rintro⟨k,ql',h6⟩ ⟨k1,k2,k3,k4,k5,k6,k8⟩;simp only at k1 k2 k3 k4 k5 k6 k8 ⊢;have hql':ql'.length=s.ah.length:=by rw[<- k2,List.length_map]
  subst hvv;by_cases c1:k<s.ah.length
  · obtain ⟨bt,cap,rfl⟩ : ∃ bt cap,ot = some (bt,cap) := by
      cases ot with
      | none=>have:s.ah.length=0:=ok2;omega
      | some p=>exact⟨_,_,rfl⟩
    simp only[ovs,Value.slice.injEq]at emt;obtain⟨rfl,_,rfl⟩:=emt;have hbt:h6 bt=noC:=k8.2;have n21:bt≠b2:=t2;have n11:bt≠b1:=t1;obtain⟨qk,hqk⟩:∃qk,qk=gr Z0 ql' k:=⟨_,rfl⟩
    have hmem:qk∈ql':=by rw[hqk,Ye qf];exact List.getElem_mem _
    have hmk:Zr h6 qk:=k3 qk hmem;have hmdm:qk.2.2∈s.ah:=by rw[<- k2];exact List.mem_map.2 ⟨qk,hmem,rfl⟩
    obtain⟨vy,vn,md⟩:=qk;have hy:=hmk.y;have hn:=hmk.n;simp only at hy hn;obtain⟨ya,yc,rfl,_⟩:=hy.open;obtain⟨na,nc,rfl,_⟩:=hn.open;simp only at hmdm;have fv:=few.v md hmdm;have g31:∀(K:Value->Prop) (t:Zm K),VE (ql'.flatMap YQ) (k*33+31) K t=K (.slice ya md.yes.length yc):=fun K t=>Yu Ya Z0 ql' qf qh qM K t;have g32:∀(K:Value->Prop) (t:Zm K),VE (ql'.flatMap YQ) (k*33+32) K t=K (.slice na md.no.length nc):=fun K t=>Yu Ya Z0 ql' qf qh qM K t;have hfl:(ql'.flatMap YQ).length=s.ah.length*33:=zq;rw[Z7];refine fD ?_
    refine Z4 (.tk 0 (.tk 2 (.tk 3 (.tk 5 (.tk 6 (.tk 8 (.tk 13 (.tk 15 (.tkl 1 (.tkl 7 (.tk 9 (.tk 10 (.tkl 11 (.o1 4 (.o1 12 (.o1 14 (.tk 16 (.tk 17 (.tkl 18 (.o1 19 (.tk 20 (.tk 21 (.o2 22 (.tk 23 (.tk 24 (.o2 25 (.fin) (.nil)))) (.nil)))) (.nil))))) (.nil)) (.o1 14 (.tk 16 (.tk 17 (.tkl 18 (.o1 12 (.o1 19 (.tk 20 (.tk 21 (.o2 22 (.tk 23 (.tk 24 (.o2 25 (.fin) (.nil)))) (.nil)))) (.nil)) (.nil))))) (.nil))) (.o1 12 (.o1 4 (.o1 14 (.tk 16 (.tk 17 (.tkl 18 (.o1 19 (.tk 20 (.tk 21 (.o2 22 (.tk 23 (.tk 24 (.o2 25 (.fin) (.nil)))) (.nil)))) (.nil))))) (.nil)) (.o1 14 (.tk 16 (.tk 17 (.tkl 18 (.o1 4 (.o1 19 (.tk 20 (.tk 21 (.o2 22 (.tk 23 (.tk 24 (.o2 25 (.fin) (.nil)))) (.nil)))) (.nil)) (.o1 19 (.tk 20 (.tk 21 (.o1 4 (.o2 22 (.tk 23 (.tk 24 (.o2 25 (.fin) (.nil)))) (.nil)) (.o2 22 (.o1 4 (.tk 23 (.tk 24 (.o2 25 (.fin) (.nil)))) (.nil)) (.nil))))) (.nil)))))) (.nil))) (.o1 14 (.tk 16 (.tk 17 (.tkl 18 (.o1 4 (.o1 12 (.o1 19 (.tk 20 (.tk 21 (.o2 22 (.tk 23 (.tk 24 (.o2 25 (.fin) (.nil)))) (.nil)))) (.nil)) (.nil)) (.o1 12 (.o1 4 (.o1 19 (.tk 20 (.tk 21 (.o2 22 (.tk 23 (.tk 24 (.o2 25 (.fin) (.nil)))) (.nil)))) (.nil)) (.o1 19 (.tk 20 (.tk 21 (.o1 4 (.o2 22 (.tk 23 (.tk 24 (.o2 25 (.fin) (.nil)))) (.nil)) (.o2 22 (.o1 4 (.tk 23 (.tk 24 (.o2 25 (.fin) (.nil)))) (.nil)) (.nil))))) (.nil))) (.nil)))))) (.nil))))))))))))))))) qg qg _ (Za.refl _ _) ?_;simp -dsimp -implicitDefEqProofs (disch:=first|exact dD|fail) [go_sem,ZX x1,ZR x1,ZX m1,ZR m1,g31,g32];have hset:∀a ac b bc,((ql'.flatMap YQ).set (k*33+31) (.slice a md.yes.length ac)).set (k*33+32) (.slice b md.no.length bc)=(ql'.set k (.slice a md.yes.length ac,.slice b md.no.length bc,md)).flatMap YQ:=fun a ac b bc=>by
      rw[Wj Ya Z0 ql' (i:=k) (m:=31) (a':=(.slice a md.yes.length ac,.slice na md.no.length nc,md)) qf qh qM];rw[Wj Ya Z0 _ (i:=k) (m:=32) (a':=(.slice a md.yes.length ac,.slice b md.no.length bc,md)) zg qh wT,List.set_set]
    have hmd:s.ah[k]?=some md:=by
      rw[<- k2,List.getElem?_map,List.getElem?_eq_getElem qf,<- Ye (z:=Z0) qf,<- hqk]
      rfl
    have hmap:∀(a b:Value),(ql'.set k (a,b,md)).map (fun x=>x.2.2)=s.ah:=fun a b=>by
      rw[List.map_set,k2];apply List.ext_getElem?;intro n;rw[List.getElem?_set];split
      · rename_i e;subst e
        first
        | exact hmd.symm
        | (split
           · exact hmd.symm
           · rw[List.getElem?_eq_none qf])
      · rfl
    repeat' first
      | refine Yf ?_ ?_
      | simp -dsimp -implicitDefEqProofs (disch:=first|exact dD|fail) [go_sem,ZX x1,ZR x1,ZX m1,ZR m1,g31,g32]
    all_goals
      refine Zb.ap (Ww _ hy qf fun h7 v7 le7 i7 ap=>?_);obtain⟨y1,y2⟩:=ap;obtain⟨y3,y4,_⟩:=Ap.oent (Ap.oent y2);obtain⟨wa,wc,rfl,_⟩:=i7.open
      first
      | refine xkp (Za.forget le7) ?_
      | skip
    repeat' first
      | refine Yf ?_ ?_
      | simp -dsimp -implicitDefEqProofs (disch:=first|exact dD|fail) [go_sem,ZX x1,ZR x1,ZX m1,ZR m1,g31,g32]
      | refine xkp (Za.forget le7) ?_
    all_goals
      refine Zb.ap (Ww _ (hn.up le7) qf fun h8 v8 le8 i8 ap=>?_);obtain⟨z1,z2⟩:=ap;obtain⟨z3,z4,_⟩:=Ap.oent (Ap.oent z2);obtain⟨ua,uc,rfl,_⟩:=i8.open
      first
      | refine xkp (Za.forget (le7.trans le8)) ?_
      | skip
    repeat' first
      | refine Yf ?_ ?_
      | simp -dsimp -implicitDefEqProofs (disch:=first|exact dD|fail) [go_sem,ZX x1,ZR x1,ZX m1,ZR m1,g31,g32]
      | refine xkp (Za.forget (le7.trans le8)) ?_
    all_goals
      have hsum:(ql'.map fun a=>(YQ a).length).sum=s.ah.length*33:=zI;have hk33:=YC (n:=s.ah.length) (w:=33) c1 (m:=32) qh;refine⟨qf,qf,k+1,ql'.set k (.slice wa md.yes.length wc,.slice ua md.no.length uc,md),h8,⟨qf,hmap _ _,fun x hx=>?_,k4.trans (le7.trans le8),z3,z4,⟨k8.1,z1⟩⟩,qf,qi,?_⟩
      · rcases List.mem_or_eq_of_mem_set hx with hx|rfl
        · exact(k3 x hx).up (le7.trans le8)
        · exact⟨i7.up le8,i8,hmk.ok⟩
      · rw[hset];exact Za.refl _ _
  have hkl:k=s.ah.length:=qf;subst hkl;refine fE ?_;refine WT (e:=120) (sz:=33) (n:=s.ah.length) ok2 zq qf k8 fun h7 le7 sl7=>?_;have le17:PH.le h h7:=(le15.trans k4).trans le7;have kq2:=k2;have kq4:=k4;refine Zb.ap (Ww _ (hs.k.up le17) qf fun h8 v8 le8 i8 ap=>?_);obtain⟨a82,a81,_⟩:=Ap.oent (Ap.oent ap);obtain⟨ka1,kc1,rfl,_⟩:=i8.open;have rmot:Zd YQ 33 h8 (.slice mta s.ah.length mtc) ql':=by
    have:=Zd.pub (f:=YQ) (w:=33) (l:=ql') (o:=ot) Ya (by rw[hql'];exact sl7);rw[hql',emt]at this;exact this.up le8
  have imot:YU h8 ql':=fun x hx=>(k3 x hx).up (le7.trans le8);have le18:=le17.trans le8;refine fD ?_;refine Zen _ (r1'.up le18) qf fun orr ok3 ar=>?_;rw[hrl]at ok3 ⊢;have ar1:=YH (YH ar);have rb2:apB orr b2:=ar1.head;have rb1:apB orr b1:=(ZV ar1).head
  replace ar1:=ZV (ZV ar1)
  simp -dsimp -implicitDefEqProofs (disch:=first|exact dD|fail) [go_sem,ZX rb1,ZR rb1,ZX x1,ZR x1,ZX m1,ZR m1];obtain⟨rta,rtc,ert,_⟩:=Z5 ok3;rw[ert];refine xx ?_;refine Yi (γ:=Nat×List QS×PH) (0,rl,h8)
    (fun q=>q.1<=s.ring.length/\xsL q.2.1=s.ring/\Yic q.2.2 q.2.1/\PH.le h8 q.2.2/\q.2.2 b2=noC/\q.2.2 b1=noC/\apO orr L q.2.2)
    (fun q=>[(75,.int .i64 q.1),(74,.int .i64 s.ring.length),(1,.pointer (some ⟨b1,0,none⟩)),(2,.pointer (some ⟨b2,0,none⟩))])
    (fun q=>oent 31 1 orr (vsL q.2.1) (oent 3 1 ox (s.exit.map (.int .i64)) (oent 74 6 om (s.ae.flatMap YD) (⟨b2,34,stC JB Zlm,41⟩::⟨b1,34,stC s ⟨.slice pa1 s.ag.length pc1,ovs om s.ae.length,.slice ea1 s.entry.length ec1,.slice xa1 s.exit.length xc1,.slice oa1 s.aj.length oc1,.slice da1 s.ai.length dc1,.slice mta s.ah.length mtc,.slice ka1 s.marks.length kc1,.slice rta s.ring.length rtc⟩,41⟩::L)))) (fun q=>q.2.2) (fun q=>s.ring.length-q.1) ?_ ?_ ?_ ?_
  · exact⟨Nat.zero_le _,r2,fun x hx=>(r1'.d x hx).up le18,PH.le_refl _,a82,a81,ar1⟩
  · simp [Ent,List.lookup,YT]
  · exact Za.refl _ _
  rintro⟨k,rl',h9⟩ ⟨k1,k2,k3,k4,k5,k6,k8⟩;simp only at k1 k2 k3 k4 k5 k6 k8 ⊢;have hrl':rl'.length=s.ring.length:=by rw[<- k2];simp [xsL]
  by_cases c2:k<s.ring.length
  · obtain ⟨bt,cap,rfl⟩ : ∃ bt cap,orr = some (bt,cap) := by
      cases orr with
      | none=>have:s.ring.length=0:=ok3;omega
      | some p=>exact⟨_,_,rfl⟩
    simp only[ovs,Value.slice.injEq]at ert;obtain⟨rfl,_,rfl⟩:=ert;have hbt:h9 bt=noC:=k8.2;have n21:bt≠b2:=rb2;have n11:bt≠b1:=rb1;obtain⟨qk,hqk⟩:∃qk,qk=gs rl' k:=⟨_,rfl⟩
    have hmem:qk∈rl':=by rw[hqk,G4 qf];exact List.getElem_mem _
    have hy:=k3 qk hmem;have hbm:qk.2∈s.ring:=by rw[<- k2];exact List.mem_map.2 ⟨qk,hmem,rfl⟩
    have fv:=few.b _ hbm;obtain⟨vy,by'⟩:=qk;simp only at hy hbm fv;obtain⟨ya,yc,rfl,_⟩:=hy.open;have g1:∀(K:Value->Prop) (t:Zm K),VE (vsL rl') k K t=K (.slice ya by'.length yc):=fun K t=>Zmf (by rw[vsL,List.getElem?_map,List.getElem?_eq_getElem qf,<- G4 qf,<- hqk];rfl);have hfl:(vsL rl').length=s.ring.length:=by simp [vsL,hrl']
    rw[Z7];refine fD ?_;refine Z4 (.tk 0 (.tk 2 (.tk 3 (.tk 5 (.tkl 1 (.tkl 4 (.tk 6 (.tkl 7 (.o1 8 (.tk 9 (.o2 10 (.fin) (.nil))) (.nil)))))))))) qg qg _ (Za.refl _ _) ?_;simp -dsimp -implicitDefEqProofs (disch:=first|exact dD|fail) [go_sem,ZX x1,ZR x1,ZX m1,ZR m1,g1]
    repeat' first
      | refine Yf ?_ ?_
      | simp -dsimp -implicitDefEqProofs (disch:=first|exact dD|fail) [go_sem,ZX x1,ZR x1,ZX m1,ZR m1,g1]
    all_goals
      refine Zb.ap (Ww _ hy qf fun h10 v10 le10 i10 ap=>?_);obtain⟨y1,y2⟩:=ap;obtain⟨y3,y4,_⟩:=Ap.oent (Ap.oent y2);obtain⟨wa,wc,rfl,_⟩:=i10.open
      first
      | refine xkp (Za.forget le10) ?_
      | skip
    repeat' first
      | refine Yf ?_ ?_
      | simp -dsimp -implicitDefEqProofs (disch:=first|exact dD|fail) [go_sem,ZX x1,ZR x1,ZX m1,ZR m1,g1]
      | refine xkp (Za.forget le10) ?_
    all_goals
      refine⟨by rw[hfl];exact c2,k+1,rl'.set k (.slice wa by'.length wc,by'),h10,⟨qf,?_,fun x hx=>?_,k4.trans le10,y3,y4,⟨k8.1,y1⟩⟩,qf,qi,?_⟩
      · rw[<- k2,xsL,xsL,List.map_set];apply List.ext_getElem?;intro n;rw[List.getElem?_set];split
        · rename_i e;subst e;have:(rl'.map (fun x:QS=>x.2))[k]?=some by':=by
            rw[List.getElem?_map,List.getElem?_eq_getElem qf,<- G4 qf,<- hqk];rfl
          first
          | exact this.symm
          | (split
             · exact this.symm
             · rename_i hh;exfalso;apply hh;simp;omega)
        · rfl
      · rcases List.mem_or_eq_of_mem_set hx with hx|rfl
        · exact(k3 x hx).up le10
        · exact i10
      · rw[vsL,vsL,List.map_set,Z7,Nat.mul_one];exact Za.refl _ _
  have hkl:k=s.ring.length:=qf;subst hkl;simp -dsimp -implicitDefEqProofs (disch:=first|exact dD|fail) [go_sem,ZX rb1,ZR rb1,ZX rb2,ZR rb2,ZX x1,ZR x1,ZX m1,ZR m1,ZX x2,ZR x2,ZX m2,ZR m2];have le10:=YL (h:=h9) k8 (vsL rl');have sl10:=WE (h:=h9) (sz:=1) (n:=s.ring.length) (o:=orr) (xs:=vsL rl') ok3 (by simp [vsL,hrl']) qf;have le8':PH.le h8 (Jh h9 orr (vsL rl')):=k4.trans le10;have hst:Zx (Jh h9 orr (vsL rl')) (.slice rta s.ring.length rtc) rl':=by
    rw[<- ert];rw[<- hrl']at sl10 ⊢;exact Zqo sl10 fun p hp=>(k3 p hp).up le10
  have le5':=kq4.trans (le7.trans (le8.trans le8'));have le4':=le5.trans le5';have le2':=le4.trans le4';have hS:Zp (Jh h9 orr (vsL rl')) (Yca ⟨.slice pa1 s.ag.length pc1,.slice none 0 0,.slice ea1 s.entry.length ec1,.slice xa1 s.exit.length xc1,.slice oa1 s.aj.length oc1,.slice da1 s.ai.length dc1,.slice mta s.ah.length mtc,.slice ka1 s.marks.length kc1,.slice rta s.ring.length rtc⟩ (.slice none 0 0) (.slice none 0 0)) (noMX s) :=
    { ok:=⟨hs.ok.p,hs.ok.u,hs.ok.n⟩,p:=i1.up (le2.trans le2'),m:=Zd.nil Z8 _,mo:=(fun x hx=>zh),e:=i2.up le2',x:=Y7 _ .i64,o:=i4.up le4',oo:=hs.oo,d:=i5.up le5',dd:=hs.dd,t:=⟨ql',rmot.up le8',kq2,fun x hx=>(imot x hx).up le8'⟩,k:=i8.up le8',r:=⟨rl',hst,k2⟩ }
  exact⟨_,_,(YG orr (vsL rl') _ h9 qh).trans Zsd,by rw[<- exx];exact hk _ ⟨.slice pa1 s.ag.length pc1,.slice none 0 0,.slice ea1 s.entry.length ec1,.slice none 0 0,.slice oa1 s.aj.length oc1,.slice da1 s.ai.length dc1,.slice mta s.ah.length mtc,.slice ka1 s.marks.length kc1,.slice rta s.ring.length rtc⟩ om ox (le18.trans le8') ok1 okx hS⟩
theorem Zwr {xs:List Int}(v:Value)(hx:Ints h .u64 v xs)(i:Nat)(hi:i<xs.length)(hk:K (.bool true) L h):Zb prog 378 [v,.int .i64 i] L h K:=by
 obtain⟨a,c,rfl,_,hl,_⟩:=hx.open;refine ed func378 ?_;refine xx ?_;exact ZP hk
theorem Ymk {xs:List Int}(v:Value)(hx:Ints h .u64 v xs)(i:Nat)(hi:i<xs.length)(hk:K (.tuple #[.int .u64 (at0 xs i),.int .i64 0]) L h):Zb prog 361 [v,.int .i64 i] L h K:=by
 have hx0:=hx;obtain⟨a,c,rfl,_,hl,_,hcs⟩:=hx.open;refine eF func361 ?_;refine xx ?_;refine Zwr _ hx0 i hi ?_;refine xe ?_;exact ZP hk
theorem Zvu {xs:List Int}(v:Value)(hx:Ints h .u64 v xs)(hl:xs.length<=1000)(i:Nat)(hi:i<xs.length)(n:Int)(hn:0<=n/\n<=18446744073709551615)(hk:∀h' r,PH.le h h'->Ints h' .u64 r (xs.set i n)->K r L h'):Zb prog 362 [v,.int .i64 i,.int .u64 n] L h K:=by
 have hx0:=hx;have hxw:=hx.word;obtain⟨a,c,rfl,_,hl2,_,hcs⟩:=hx.open;refine ed func362 ?_;refine xx ?_;refine JH (e:=22) (z:=.int .u64 0) qg Vw rfl rfl .i64 .i64 _ qf qF qf ?_;simp only[Int.toNat_natCast];refine ZY fun b1 nb1 zb1=>?_;(try simp only[ZS]at nb1);refine xx ?_;refine Ykt (e:=22) (sz:=1) qg Vw rfl (Src.known hx0.1) qj (Nat.le_refl _) ?_;have hw:wr (List.replicate xs.length (Value.int .u64 0)) 0 (xs.map (Value.int .u64))=xs.map (Value.int .u64):=by
  rw[J7 _ _ _ qj];simp
 simp -dsimp -implicitDefEqProofs (disch:=first|exact dD|fail) [go_sem,hw,Vd];refine⟨qf,?_⟩;rw[<- List.map_set]
 have:=Yv (K:=K) (L:=L) (v:=.slice (some ⟨b1,0,none⟩) xs.length xs.length) (e:=22) (sz:=1) (o:=some (b1,xs.length)) (n:=xs.length) (xs:=(xs.set i n).map (.int .u64)) (h:=h) (L0:=L) ⟨Nat.le_refl _,qm⟩ qj qf ⟨nb1,zb1⟩ fun h' le sl=>ZP (hk h' _ le ⟨by rw[List.length_set];exact sl,fun z hz=>by
  rw[show IntKind.u64.min=0 from qh,show IntKind.u64.max=18446744073709551615 from qh];rcases List.mem_or_eq_of_mem_set hz with hz|rfl
  ·have:=hx0.2 z hz
   rwa [show IntKind.u64.min=0 from qh,show IntKind.u64.max=18446744073709551615 from qh]at this
  ·exact hn⟩)
 simpa only[oent,Nat.mul_one] using this
theorem Ynf {xs:List Int}(v:Value)(hx:Ints h .u64 v xs)(hl:xs.length<=1000)(i:Nat)(hi:i<xs.length)(n:Int)(hn:0<=n)(hs:at0 xs i+n<=4611686018427387904)(hk:∀h' r,PH.le h h'->Ints h' .u64 r (xs.set i (at0 xs i+n))->K (.tuple #[r,.int .i64 0]) L h'):Zb prog 308 [v,.int .i64 i,.int .u64 n] L h K:=by
 have hx0:=hx;have hw:=hx.word i;obtain⟨a,c,rfl,_,hl2,_⟩:=hx.open;refine eF func308 ?_;refine xx ?_;refine Ymk _ hx0 i hi ?_;refine xx ?_;refine WV (at0 xs i) n hw qf ?_;rw[YR qf];refine xx ?_;refine Zvu _ hx0 hl i hi _ qf fun h1 r le i1=>?_;obtain⟨ra,rc,rfl,_⟩:=i1.open;have h2:=hk h1 _ le i1;rw[List.length_set]at h2;refine xx ?_;exact ZP h2
theorem Zru (p:Ze)(ok:Zj p)(hr:Yo p=true)(b:Int)(hb:0<=b/\b<=18446744073709551615)(hk:K (.tuple #[.int .u64 (min b p.cap),.int .u64 (b-min b p.cap)]) L h):Zb prog 223 [WS p,.int .u64 b] L h K:=by
 have hc:=ok.w p.cap qB;refine eF func223 ?_;refine xx ?_;refine ZY fun b1 nb1 zb1=>?_;(try simp only[ZS]at nb1);refine xx ?_;refine JG p ok ?_;rw[hr];refine xx ?_;refine ZY fun b2 nb2 zb2=>?_;(try simp only[ZS]at nb2);refine xx ?_;have take:∀ {K':PK} {L':Own},K' (.tuple #[.int .u64 (min b p.cap),.int .u64 (b-min b p.cap)]) L' h->Zb prog 300 [.int .u64 b,.int .u64 p.cap] L' h K':=fun {K' L'} hK=>by
  refine eF func300 ?_;refine xx ?_;exact ZP hK
 refine take ?_;refine xx ?_;exact ZO (ZO (ZP hk))
theorem Zxg (p:Ze)(ok:Zj p)(hr:Yo p=true)(e b:Int)(he:0<=e/\e<=18446744073709551615)(hb:0<=b/\b<=18446744073709551615)(hk:K (.int .u64 (UL p e b)) L h):Zb prog 226 [WS p,.int .u64 e,.int .u64 b] L h K:=by
 refine ed func226 ?_;refine xx ?_;refine ZY fun b1 nb1 zb1=>?_;(try simp only[ZS]at nb1);refine xx ?_;refine JG p ok ?_;rw[hr];refine xx ?_;refine ZY fun b2 nb2 zb2=>?_;(try simp only[ZS]at nb2);refine xx ?_;refine Zpx p ok (Ul hr) e b he hb ?_;refine xx ?_;exact ZO (ZO (ZP hk))
theorem Ysz {l:List Zc}{k:Nat}(hk:k<l.length){i:Nat}(hi:i<6){u:Value}{a a':Zc}(ha:YD a'=(YD a).set i u):((l.set k a).flatMap YD).set (k*6+i) u=(l.set k a').flatMap YD:=by
 rw[Wj Z8 ZQ (l.set k a) (by rw[List.length_set];exact hk) hi (a':=a') (by rw[Ye (by rw[List.length_set];exact hk),List.getElem_set_self];exact ha),List.set_set]
theorem fset4 {l:List Zc}{k:Nat}(hk:k<l.length)(a b:Zc)(ho:b.owner=a.owner)(hs:b.status=a.status) :
  (((((l.set k a).flatMap YD).set (k*6) (.int .u64 b.bal)).set (k*6+1) (.int .u64 b.eff)).set (k*6+2) (.int .u64 b.score)).set (k*6+3) (.int .i64 b.ak)=(l.set k b).flatMap YD:=by
 have h0:((l.set k a).flatMap YD).set (k*6) (.int .u64 b.bal)=(l.set k { a with bal:=b.bal }).flatMap YD:=Ysz hk (i:=0) qh rfl;have h1:((l.set k { a with bal:=b.bal }).flatMap YD).set (k*6+1) (.int .u64 b.eff)=(l.set k { a with bal:=b.bal,eff:=b.eff }).flatMap YD:=Ysz hk qh rfl;have h2:((l.set k { a with bal:=b.bal,eff:=b.eff }).flatMap YD).set (k*6+2) (.int .u64 b.score)=(l.set k { a with bal:=b.bal,eff:=b.eff,score:=b.score }).flatMap YD:=Ysz hk qh rfl;have h3:((l.set k { a with bal:=b.bal,eff:=b.eff,score:=b.score }).flatMap YD).set (k*6+3) (.int .i64 b.ak)=(l.set k { a with bal:=b.bal,eff:=b.eff,score:=b.score,ak:=b.ak }).flatMap YD:=Ysz hk qh rfl;rw[h0,h1,h2,h3];have:({ a with bal:=b.bal,eff:=b.eff,score:=b.score,ak:=b.ak }:Zc)=b:=by
  cases a;cases b;simp only at ho hs;subst ho;subst hs;rfl
 rw[this]
def W7 (q:Ze)(m:Zc):Zc:=JV q { m with bal:=min m.bal q.cap }
def Y5 (q:Ze)(m:Zc):Zc:={ m with eff:=if VJ q (UL q m.eff m.bal) m.bal then UL q m.eff m.bal else Wi q m.bal }
end Go.X
