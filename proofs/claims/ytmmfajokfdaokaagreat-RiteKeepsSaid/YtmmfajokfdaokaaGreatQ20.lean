/- Lemmas and contracts. Conditions: as each says. -/
import Derived.Shelf.Spec.BitsCarry
import Derived.Test.YtmmfajokfdaokaaGreatQ18
set_option linter.unusedVariables false
set_option linter.unusedSimpArgs false
set_option maxHeartbeats 12800000
set_option maxRecDepth 20000
namespace Go.X
open Go.RowKit Go.Proofs Go.Bl Go.Proofs.Tryz
variable {L:Own} {h:PH} {K:PK}
theorem JK {α:Type}{f:α→List Value}(h1:∀a,∀u∈f a,u.oneCell'=true)(l:List α):∀u∈l.flatMap f,u.oneCell'=true:=fun u hu=>by
 obtain⟨a,_,hb⟩:=List.mem_flatMap.1 hu;exact h1 a u hb
theorem Zqf (m:Zc):∀u∈YK m,u.oneCell'=true:=fun u hu=>by
 simp only[YK,List.mem_cons,List.not_mem_nil,or_false]at hu;rcases hu with rfl|rfl|rfl|rfl|rfl|rfl<;>rfl
theorem Yis (m:Zn):∀u∈UY m,u.oneCell'=true:=fun u hu=>by
 simp only[UY,List.mem_cons,List.not_mem_nil,or_false]at hu;rcases hu with rfl|rfl|rfl|rfl<;>rfl
theorem GL (m:Zi):∀u∈YT m,u.oneCell'=true:=fun u hu=>by
 simp only[YT,List.mem_cons,List.not_mem_nil,or_false]at hu;rcases hu with rfl|rfl|rfl<;>rfl
theorem JG {v:Value}{h:PH}{k:IntKind}{xs:List Int}(hx:Ints h k v xs):v.oneCell'=true:=by
 obtain⟨a,c,rfl,_⟩:=hx.open
 rfl
theorem Zro {h:PH}{q:QM}(hq:Zw h q):∀u∈Y2 q,u.oneCell'=true:=fun u hu=>by
 have h1:=JG hq.y;have h2:=JG hq.n;simp only[Y2,Jb,List.mem_cons,List.mem_append,List.not_mem_nil,or_false]at hu;rcases hu with rfl|rfl|hu|hu
 ·rfl
 ·rfl
 ·obtain rfl|rfl|rfl|rfl|rfl|rfl|rfl|rfl|rfl|rfl|rfl|rfl|rfl|rfl|rfl|rfl|rfl|rfl|rfl|rfl|rfl|rfl|rfl|rfl:=hu<;>rfl
 ·rcases hu with rfl|rfl|rfl|rfl|rfl|rfl|rfl
  ·rfl
  ·rfl
  ·rfl
  ·rfl
  ·rfl
  ·exact h1
  ·exact h2
theorem Zfo {l:List Zc}(v:Value)(hv:Zh YK 6 h v l)(hl:l.length≤1000)(hk:∀o,okO o l.length→apO o L h→K (ovs o l.length) (oent 73 6 o (l.flatMap YK) L) h):Zb prog 64 [v] L h K:=by
 have hx:=hv;obtain⟨a,ca,rfl,hna,hca,h0,_⟩:=hx.open;refine ZR func64 rfl (rs:=[_]) rfl rfl ZY (by kernel_rfl) rfl rfl ?_;refine xx ?_
 cases ha:a.isNone with
 | true =>
  have ha':a=none:=by simpa using ha
  subst ha';have hl0:l.length=0:=by have:=h0 rfl;omega
  have hx':l=[]:=List.eq_nil_of_length_eq_zero hl0;subst hx';refine xx ?_;exact ZO (hk none rfl trivial)
 | false =>
  refine xx ?_;refine Z6 fun b1 nb1 zb1=>?_;(try simp only[ZU]at nb1);refine xx ?_;refine Z8 (t:=31) (e:=73) (sz:=6) (bytes:=48) (by kernel_rfl) Yja rfl rfl rfl rfl (by decide) [] L (some (b1,0)) 0 [] ⟨Nat.le_refl _,Nat.zero_le _⟩ rfl (Src.known hx.s) (news:=l.flatMap YK) (Z3 Yb l) (JK Zqf l) (by simp [maxLen];omega) (by omega) ?_;intro o' j1 j2 j3;simp only[Nat.zero_add,List.nil_append]at j1 j2 ⊢;refine xx ?_;exact ZO (hk o' j1 j2)
theorem Zsz {l:List Int}(v:Value)(hv:Ints h .i64 v l)(hl:l.length≤1000)(hk:∀h' r,PH.le h h'→Ints h' .i64 r l→K r L h'):Zb prog 65 [v] L h K:=by
 have hx:=hv;obtain⟨a,ca,rfl,hna,hca,h0,_⟩:=hx.open;refine ZR func65 rfl (rs:=[_]) rfl rfl ZY (by kernel_rfl) rfl rfl ?_;refine xx ?_
 cases ha:a.isNone with
 | true =>
  have ha':a=none:=by simpa using ha
  subst ha';have hl0:l.length=0:=by have:=h0 rfl;omega
  have hx':l=[]:=List.eq_nil_of_length_eq_zero hl0;subst hx';refine xx ?_;exact ZO (hk h _ (PH.le_refl h) (Yd h .i64))
 | false =>
  refine xx ?_;refine Z6 fun b1 nb1 zb1=>?_;(try simp only[ZU]at nb1);refine xx ?_;refine Z8 (t:=32) (e:=3) (sz:=1) (bytes:=8) (by kernel_rfl) Zem rfl rfl rfl rfl (by decide) [] L (some (b1,0)) 0 [] ⟨Nat.le_refl _,Nat.zero_le _⟩ rfl (Src.known hx.1) (news:=l.map (Value.int .i64)) (by simp) (WC _ _) (by simp [maxLen];omega) (by omega) ?_;intro o' j1 j2 j3;simp only[Nat.zero_add,List.nil_append]at j1 j2 ⊢;refine xx ?_;exact YE (e:=3) (sz:=1) (n:=l.length) j1 (by simp) (by omega) j2 fun h' le sl=>ZO (hk h' _ le ⟨sl,hx.2⟩)
theorem Zau {l:List Int}(v:Value)(hv:Ints h .i64 v l)(hl:l.length≤1000)(hk:∀o,okO o l.length→apO o L h→K (ovs o l.length) (oent 3 1 o (l.map (.int .i64)) L) h):Zb prog 65 [v] L h K:=by
 have hx:=hv;obtain⟨a,ca,rfl,hna,hca,h0,_⟩:=hx.open;refine ZR func65 rfl (rs:=[_]) rfl rfl ZY (by kernel_rfl) rfl rfl ?_;refine xx ?_
 cases ha:a.isNone with
 | true =>
  have ha':a=none:=by simpa using ha
  subst ha';have hl0:l.length=0:=by have:=h0 rfl;omega
  have hx':l=[]:=List.eq_nil_of_length_eq_zero hl0;subst hx';refine xx ?_;exact ZO (hk none rfl trivial)
 | false =>
  refine xx ?_;refine Z6 fun b1 nb1 zb1=>?_;(try simp only[ZU]at nb1);refine xx ?_;refine Z8 (t:=32) (e:=3) (sz:=1) (bytes:=8) (by kernel_rfl) Zem rfl rfl rfl rfl (by decide) [] L (some (b1,0)) 0 [] ⟨Nat.le_refl _,Nat.zero_le _⟩ rfl (Src.known hx.1) (news:=l.map (Value.int .i64)) (by simp) (WC _ _) (by simp [maxLen];omega) (by omega) ?_;intro o' j1 j2 j3;simp only[Nat.zero_add,List.nil_append]at j1 j2 ⊢;refine xx ?_;exact ZO (hk o' j1 j2)
theorem Zgc {l:List Zn}(v:Value)(hv:Zh UY 4 h v l)(hl:l.length≤1000)(hk:∀h' r,PH.le h h'→Zh UY 4 h' r l→K r L h'):Zb prog 66 [v] L h K:=by
 have hx:=hv;obtain⟨a,ca,rfl,hna,hca,h0,_⟩:=hx.open;refine ZR func66 rfl (rs:=[_]) rfl rfl ZY (by kernel_rfl) rfl rfl ?_;refine xx ?_
 cases ha:a.isNone with
 | true =>
  have ha':a=none:=by simpa using ha
  subst ha';have hl0:l.length=0:=by have:=h0 rfl;omega
  have hx':l=[]:=List.eq_nil_of_length_eq_zero hl0;subst hx';refine xx ?_;exact ZO (hk h _ (PH.le_refl h) (Zh.nil YW h))
 | false =>
  refine xx ?_;refine Z6 fun b1 nb1 zb1=>?_;(try simp only[ZU]at nb1);refine xx ?_;refine Z8 (t:=33) (e:=139) (sz:=4) (bytes:=32) (by kernel_rfl) JB rfl rfl rfl rfl (by decide) [] L (some (b1,0)) 0 [] ⟨Nat.le_refl _,Nat.zero_le _⟩ rfl (Src.known hx.s) (news:=l.flatMap UY) (Z3 YW l) (JK Yis l) (by simp [maxLen];omega) (by omega) ?_;intro o' j1 j2 j3;simp only[Nat.zero_add,List.nil_append]at j1 j2 ⊢;refine xx ?_;exact YE (e:=139) (sz:=4) (n:=l.length) j1 (Z3 YW l) (by omega) j2 fun h' le sl=>ZO (hk h' _ le (Zh.pub hx.len sl))
theorem Zao {l:List Zi}(v:Value)(hv:Zh YT 3 h v l)(hl:l.length≤34000)(hk:∀h' r,PH.le h h'→Zh YT 3 h' r l→K r L h'):Zb prog 67 [v] L h K:=by
 have hx:=hv;obtain⟨a,ca,rfl,hna,hca,h0,_⟩:=hx.open;refine ZR func67 rfl (rs:=[_]) rfl rfl ZY (by kernel_rfl) rfl rfl ?_;refine xx ?_
 cases ha:a.isNone with
 | true =>
  have ha':a=none:=by simpa using ha
  subst ha';have hl0:l.length=0:=by have:=h0 rfl;omega
  have hx':l=[]:=List.eq_nil_of_length_eq_zero hl0;subst hx';refine xx ?_;exact ZO (hk h _ (PH.le_refl h) (Zh.nil YJ h))
 | false =>
  refine xx ?_;refine Z6 fun b1 nb1 zb1=>?_;(try simp only[ZU]at nb1);refine xx ?_;refine Z8 (t:=34) (e:=142) (sz:=3) (bytes:=24) (by kernel_rfl) Jo rfl rfl rfl rfl (by decide) [] L (some (b1,0)) 0 [] ⟨Nat.le_refl _,Nat.zero_le _⟩ rfl (Src.known hx.s) (news:=l.flatMap YT) (Z3 YJ l) (JK GL l) (by simp [maxLen];omega) (by omega) ?_;intro o' j1 j2 j3;simp only[Nat.zero_add,List.nil_append]at j1 j2 ⊢;refine xx ?_;exact YE (e:=142) (sz:=3) (n:=l.length) j1 (Z3 YJ l) (by omega) j2 fun h' le sl=>ZO (hk h' _ le (Zh.pub hx.len sl))
theorem Zai {l:List QM}(v:Value)(hv:Zh Y2 33 h v l)(hm:∀x∈l,Zw h x)(hl:l.length≤1000)(hk:∀o,okO o l.length→apO o L h→K (ovs o l.length) (oent 75 33 o (l.flatMap Y2) L) h):Zb prog 68 [v] L h K:=by
 have hx:=hv;obtain⟨a,ca,rfl,hna,hca,h0,_⟩:=hx.open;refine ZR func68 rfl (rs:=[_]) rfl rfl ZY (by kernel_rfl) rfl rfl ?_;refine xx ?_
 cases ha:a.isNone with
 | true =>
  have ha':a=none:=by simpa using ha
  subst ha';have hl0:l.length=0:=by have:=h0 rfl;omega
  have hx':l=[]:=List.eq_nil_of_length_eq_zero hl0;subst hx';refine xx ?_;exact ZO (hk none rfl trivial)
 | false =>
  refine xx ?_;refine Z6 fun b1 nb1 zb1=>?_;(try simp only[ZU]at nb1);refine xx ?_;refine Z8 (t:=35) (e:=75) (sz:=33) (bytes:=296) (by kernel_rfl) Yoc rfl rfl rfl rfl (by decide) [] L (some (b1,0)) 0 [] ⟨Nat.le_refl _,Nat.zero_le _⟩ rfl (Src.known hx.s) (news:=l.flatMap Y2) (Z3 Z9 l) (fun u hu=>by obtain⟨a,hq,hb⟩:=List.mem_flatMap.1 hu;exact Zro (hm a hq) u hb) (by simp [maxLen];omega) (by omega) ?_;intro o' j1 j2 j3;simp only[Nat.zero_add,List.nil_append]at j1 j2 ⊢;refine xx ?_;exact ZO (hk o' j1 j2)
theorem Zgu {l:List QS}(v:Value)(hv:Zz h v l)(hl:l.length≤1000)(hk:∀o,okO o l.length→apO o L h→K (ovs o l.length) (oent 36 1 o (vsL l) L) h):Zb prog 70 [v] L h K:=by
 have hx:=hv;obtain⟨a,ca,rfl,hna,hca,h0,_⟩:=hx.open;refine ZR func70 rfl (rs:=[_]) rfl rfl ZY (by kernel_rfl) rfl rfl ?_;refine xx ?_
 cases ha:a.isNone with
 | true =>
  have ha':a=none:=by simpa using ha
  subst ha';have hl0:l.length=0:=by have:=h0 rfl;omega
  have hx':l=[]:=List.eq_nil_of_length_eq_zero hl0;subst hx';refine xx ?_;exact ZO (hk none rfl trivial)
 | false =>
  refine xx ?_;refine Z6 fun b1 nb1 zb1=>?_;(try simp only[ZU]at nb1);refine xx ?_;refine Z8 (t:=37) (e:=36) (sz:=1) (bytes:=24) (by kernel_rfl) Yon rfl rfl rfl rfl (by decide) [] L (some (b1,0)) 0 [] ⟨Nat.le_refl _,Nat.zero_le _⟩ rfl (Src.known hx.s) (news:=vsL l) (by simp [vsL]) (fun u hu=>by obtain⟨q,hq,rfl⟩:=List.mem_map.1 hu;exact JG (hv.d q hq)) (by simp [maxLen];omega) (by omega) ?_;intro o' j1 j2 j3;simp only[Nat.zero_add,List.nil_append]at j1 j2 ⊢;refine xx ?_;exact ZO (hk o' j1 j2)
theorem Ypv {i j w m m':Nat}(hm:m<w)(hm':m'<w)(hij:i≠j):i*w+m≠j*w+m':=fun e=>by
 rcases Nat.lt_or_gt_of_ne hij with c|c
 ·have:=Nat.mul_le_mul_right w (show i+1≤j from c);rw[Nat.succ_mul]at this;omega
 ·have:=Nat.mul_le_mul_right w (show j+1≤i from c);rw[Nat.succ_mul]at this;omega
theorem Wv {i n w m:Nat}(hi:i<n)(hm:m<w):i*w+m<n*w:=by
 have:=Nat.mul_le_mul_right w (show i+1≤n from hi);rw[Nat.succ_mul]at this;omega
theorem Wm {α:Type}{f:α→List Value}{w:Nat}(hf:∀a,(f a).length=w)(z:α)(l:List α){i m:Nat}(hi:i<l.length)(hm:m<w){u:Value}{a':α}(ha:f a'=(f (gr z l i)).set m u):(l.flatMap f).set (i*w+m) u=(l.set i a').flatMap f:=by
 apply List.ext_getElem?;intro n;obtain⟨j,m',rfl,hm'⟩:∃j m',n=j*w+m'∧m'<w:=⟨n/w,n%w,by rw[Nat.mul_comm,Nat.div_add_mod],Nat.mod_lt _ (by omega)⟩
 rw[UW hf _ j m' hm',List.getElem?_set,UW hf _ j m' hm',List.getElem?_set];by_cases e:i=j
 ·subst e;have hll:i*w+m<(l.flatMap f).length:=by rw[Z3 hf];exact Wv hi hm
  rw[if_pos rfl,if_pos hi];show _=(f a')[m']?;rw[ha,List.getElem?_set,Yl hi];by_cases e2:m=m'
  ·subst e2;rw[if_pos rfl,if_pos hll,if_pos rfl,if_pos (by rw[hf];exact hm)]
  ·rw[if_neg (by omega),if_neg e2,List.getElem?_eq_getElem hi]
   rfl
 ·rw[if_neg (Ypv hm hm' e),if_neg e]
theorem Yq {α:Type}{f:α→List Value}{w:Nat}(hf:∀a,(f a).length=w)(z:α)(l:List α){i m:Nat}(hi:i<l.length)(hm:m<w){u:Value}(hu:(f (gr z l i))[m]?=some u)(K:Value→Prop)(t:Zq K):VP (l.flatMap f) (i*w+m) K t=K u :=
 Zod (by rw[UW hf l i m hm,List.getElem?_eq_getElem hi,← Yl (z:=z) hi];exact hu)
theorem Yf {e sz:Nat}(o:Option (Nat×Nat))(xs:List Value){L L':Own}(hp:L.Perm L'):(oent e sz o xs L).Perm (oent e sz o xs L'):=by
 cases o with
 | none=>exact hp
 | some p=>exact List.Perm.cons _ hp
theorem Ztz {e sz e2 sz2:Nat}{o o2:Option (Nat×Nat)}{xs ys:List Value}{x y:Zo}{L:Own}{h:PH}:Za (oent e sz o xs (oent e2 sz2 o2 ys (x::y::L))) h (oent e sz o xs (oent e2 sz2 o2 ys L)) h:=by
 have p1:(x::y::oent e sz o xs (oent e2 sz2 o2 ys L)).Perm (oent e sz o xs (x::y::oent e2 sz2 o2 ys L)):=Yv [x,y];have p2:=Yf (e:=e) (sz:=sz) o xs (Yv (e:=e2) (sz:=sz2) (o:=o2) (xs:=ys) [x,y] (L:=L));exact(Za.perm h (p1.trans p2).symm).trans ((Za.tail _ _ _).trans (Za.tail _ _ _))
def Yla (h:PH)(q:List QS):Prop:=∀p∈q,Ints h .u8 p.1 p.2
def Y7 (h:PH)(q:List QM):Prop:=∀x∈q,Zw h x
def noMX (s:Zf):Zf:={ s with members:=[],exit:=[] }
structure Zu (s:Zf):Prop where
 p:s.purses.length≤1000
 m:s.members.length≤1000
 e:s.entry.length≤1000
 x:s.exit.length≤1000
 o:s.pool.length≤1000
 d:s.dues.length≤34000
 t:s.motions.length≤1000
 k:s.marks.length≤1000
 r:s.ring.length≤1000
 v:∀m∈s.motions,m.yes.length≤1000∧m.no.length≤1000
 b:∀b∈s.ring,b.length≤1000
abbrev setM (u:SV)(m:Value):SV:=⟨u.p,m,u.e,u.x,u.o,u.d,u.t,u.k,u.r⟩
abbrev Zlo (u:SV)(m x:Value):SV:=⟨u.p,m,u.e,x,u.o,u.d,u.t,u.k,u.r⟩
theorem Zkm {s:Zf}(v:SV)(hs:Zs h v s)(few:Zu s)
    (hk:∀(h':PH) (u:SV) (o ox:Option (Nat×Nat)),PH.le h h'→okO o s.members.length→okO ox s.exit.length→Zs h' (Zlo u (.slice none 0 0) (.slice none 0 0)) (noMX s)→K (stV s (Zlo u (ovs o s.members.length) (ovs ox s.exit.length))) (oent 3 1 ox (s.exit.map (.int .i64)) (oent 73 6 o (s.members.flatMap YK) L)) h'):Zb prog 18 [stV s v] L h K:=by
  obtain⟨pa,pc,ma,mc,ea,ec,xa,xc,oa,oc,da,dc,ta,tc,ka,kc,ra,rc,rfl⟩:=hs.slices;have fm:=few.m;have fp:=few.p;have fe:=few.e;have fx:=few.x;have fo:=few.o;have fd:=few.d;have ft:=few.t;have fk:=few.k;have fr:=few.r;obtain⟨ql,q1,q2,q3⟩:=hs.t;obtain⟨rl,r1,r2⟩:=hs.r;have q1':Zh Y2 33 h (.slice ta s.motions.length tc) ql:=q1;have r1':Zz h (.slice ra s.ring.length rc) rl:=r1;have hql:ql.length=s.motions.length:=by rw[← q2,List.length_map]
  have hrl:rl.length=s.ring.length:=by rw[← r2];simp [xsL]
  refine ZR func18 rfl (rs:=[_]) rfl rfl ZY (by kernel_rfl) rfl rfl ?_;refine xx ?_;refine Z6 fun b1 nb1 zb1=>?_;(try simp only[ZU]at nb1);refine xx ?_;refine Z6 fun b2 nb2 zb2=>?_;(try simp only[ZU]at nb2);refine xx ?_;refine Zb.ap (GD _ hs.p (by omega) fun h1 v1 le1 i1 ap=>?_);simp only[Ap]at ap;obtain⟨a12,a11,_⟩:=ap;obtain⟨pa1,pc1,rfl,_⟩:=i1.open;refine xx ?_;refine Zfo _ (hs.m.up le1) (by omega) fun om ok1 am1=>?_;have m2:apB om b2:=am1.head;have m1:apB om b1:=(Z2 am1).head;simp -dsimp -implicitDefEqProofs (disch:=first|with_reducible assumption|omega) [go_sem,ZT m1,ZQ m1];refine Yr (.tk 0 (.tk 3 (.tkl 1 (.tkl 4 (.o1 2 (.tk 6 (.o1 5 (.o2 7 (.tk 8 (.o2 9 (.fin) (.nil))) (.nil)) (.nil))) (.nil)))))) (by kernel_rfl) (by kernel_rfl) _ (Za.refl _ _) ?_;simp -dsimp -implicitDefEqProofs (disch:=first|with_reducible assumption|omega) [go_sem,ZT m1,ZQ m1];refine Zb.ap (Zsz _ (hs.e.up le1) (by omega) fun h2 v2 le2 i2 ap=>?_);obtain⟨a22,a21,_⟩:=Ap.oent ap;obtain⟨ea1,ec1,rfl,_⟩:=i2.open;refine xkp (Za.forget le2) ?_;simp -dsimp -implicitDefEqProofs (disch:=first|with_reducible assumption|omega) [go_sem,ZT m1,ZQ m1];refine Zau _ (hs.x.up (le1.trans le2)) (by omega) fun ox okx amx=>?_;have amx0:=Wf amx;have x2:apB ox b2:=amx0.head;have x1:apB ox b1:=(Z2 amx0).head;obtain⟨xa1,xc1,exx,_⟩:=Yh okx;rw[exx]
  first
  | refine xkp ((Za.oent _ _ _ _ _ _).trans (Za.forget le2)) ?_
  | refine xkp (Za.oent _ _ _ _ _ _) ?_
  | skip
  simp -dsimp -implicitDefEqProofs (disch:=first|with_reducible assumption|omega) [go_sem,ZT x1,ZQ x1,ZT m1,ZQ m1];refine Yr (.tk 0 (.tk 3 (.tkl 1 (.tkl 4 (.o1 2 (.tk 6 (.o1 5 (.o2 7 (.tk 8 (.o2 9 (.fin) (.nil))) (.nil)) (.nil))) (.nil)))))) (by kernel_rfl) (by kernel_rfl) _ (Za.refl _ _) ?_;simp -dsimp -implicitDefEqProofs (disch:=first|with_reducible assumption|omega) [go_sem,ZT x1,ZQ x1,ZT m1,ZQ m1];have le13:=le1.trans le2;refine Zb.ap (Zgc _ (hs.o.up le13) (by omega) fun h4 v4 le4 i4 ap=>?_);obtain⟨a42,a41,_⟩:=Ap.oent (Ap.oent ap);obtain⟨oa1,oc1,rfl,_⟩:=i4.open;refine xkp (Za.forget le4) ?_;simp -dsimp -implicitDefEqProofs (disch:=first|with_reducible assumption|omega) [go_sem,ZT x1,ZQ x1,ZT m1,ZQ m1];have le14:=le13.trans le4;refine Zb.ap (Zao _ (hs.d.up le14) (by omega) fun h5 v5 le5 i5 ap=>?_);obtain⟨a52,a51,_⟩:=Ap.oent (Ap.oent ap);obtain⟨da1,dc1,rfl,_⟩:=i5.open
  first
  | refine xkp (Za.forget (le4.trans le5)) ?_
  | skip
  simp -dsimp -implicitDefEqProofs (disch:=first|with_reducible assumption|omega) [go_sem,ZT x1,ZQ x1,ZT m1,ZQ m1];have le15:=le14.trans le5;refine Zai _ (q1'.up le15) (fun x hx=>(q3 x hx).up le15) (by omega) fun ot ok2 at0'=>?_;rw[hql]at ok2 ⊢;have at1:=Wf (Wf at0');have t2:apB ot b2:=at1.head;have t1:apB ot b1:=(Z2 at1).head
  replace at1:=Z2 (Z2 at1)
  simp -dsimp -implicitDefEqProofs (disch:=first|with_reducible assumption|omega) [go_sem,ZT t1,ZQ t1,ZT x1,ZQ x1,ZT m1,ZQ m1];obtain⟨mta,mtc,emt,_⟩:=Yh ok2;rw[emt];refine xx ?_;obtain⟨vv,hvv⟩:∃vv:SV,vv=⟨.slice pa1 s.purses.length pc1,ovs om s.members.length,.slice ea1 s.entry.length ec1,.slice xa1 s.exit.length xc1,.slice oa1 s.pool.length oc1,.slice da1 s.dues.length dc1,.slice mta s.motions.length mtc,.slice ka s.marks.length kc,.slice ra s.ring.length rc⟩:=⟨_,rfl⟩
  refine YZ (γ:=Nat×List QM×PH) (0,ql,h5)
    (fun q=>q.1≤s.motions.length∧q.2.1.map (fun x=>x.2.2)=s.motions∧Y7 q.2.2 q.2.1∧PH.le h5 q.2.2∧q.2.2 b2=noC∧q.2.2 b1=noC∧apO ot L q.2.2)
    (fun q=>[(36,.int .i64 q.1),(35,.int .i64 s.motions.length),(1,.pointer (some ⟨b1,0,none⟩)),(2,.pointer (some ⟨b2,0,none⟩))])
    (fun q=>oent 75 33 ot (q.2.1.flatMap Y2) (oent 3 1 ox (s.exit.map (.int .i64)) (oent 73 6 om (s.members.flatMap YK) (⟨b2,39,stC Ui Zge,41⟩::⟨b1,39,stC s vv,41⟩::L)))) (fun q=>q.2.2) (fun q=>s.motions.length-q.1) ?_ ?_ ?_ ?_
  · exact⟨Nat.zero_le _,q2,fun x hx=>(q3 x hx).up le15,PH.le_refl _,a52,a51,at1⟩
  · simp [Ent,List.lookup,WM]
  · subst hvv;exact Za.refl _ _
  rintro⟨k,ql',h6⟩ ⟨k1,k2,k3,k4,k5,k6,k8⟩;simp only at k1 k2 k3 k4 k5 k6 k8 ⊢;have hql':ql'.length=s.motions.length:=by rw[← k2,List.length_map]
  subst hvv;by_cases c1:k<s.motions.length
  · obtain ⟨bt,cap,rfl⟩ : ∃ bt cap,ot = some (bt,cap) := by
      cases ot with
      | none=>have:s.motions.length=0:=ok2;omega
      | some p=>exact⟨_,_,rfl⟩
    simp only[ovs,Value.slice.injEq]at emt;obtain⟨rfl,_,rfl⟩:=emt;have hbt:h6 bt=noC:=k8.2;have n21:bt≠b2:=t2;have n11:bt≠b1:=t1;obtain⟨qk,hqk⟩:∃qk,qk=gr Yc ql' k:=⟨_,rfl⟩
    have hmem:qk∈ql':=by rw[hqk,Yl (by omega)];exact List.getElem_mem _
    have hmk:Zw h6 qk:=k3 qk hmem;have hmdm:qk.2.2∈s.motions:=by rw[← k2];exact List.mem_map.2 ⟨qk,hmem,rfl⟩
    obtain⟨vy,vn,md⟩:=qk;have hy:=hmk.y;have hn:=hmk.n;simp only at hy hn;obtain⟨ya,yc,rfl,_⟩:=hy.open;obtain⟨na,nc,rfl,_⟩:=hn.open;simp only at hmdm;have fv:=few.v md hmdm;have g31:∀(K:Value→Prop) (t:Zq K),VP (ql'.flatMap Y2) (k*33+31) K t=K (.slice ya md.yes.length yc):=fun K t=>Yq Z9 Yc ql' (by omega) (by decide) (by rw[← hqk];rfl) K t;have g32:∀(K:Value→Prop) (t:Zq K),VP (ql'.flatMap Y2) (k*33+32) K t=K (.slice na md.no.length nc):=fun K t=>Yq Z9 Yc ql' (by omega) (by decide) (by rw[← hqk];rfl) K t;have hfl:(ql'.flatMap Y2).length=s.motions.length*33:=by rw[Z3 Z9,hql']
    rw[Yg];simp -dsimp -implicitDefEqProofs (disch:=first|with_reducible assumption|omega) [go_sem,ZT x1,ZQ x1,ZT m1,ZQ m1];refine Yr (.tk 0 (.tk 2 (.tk 3 (.tk 5 (.tk 6 (.tk 8 (.tk 13 (.tk 15 (.tkl 1 (.tkl 7 (.tk 9 (.tk 10 (.tkl 11 (.o1 4 (.o1 12 (.o1 14 (.tk 16 (.tk 17 (.tkl 18 (.o1 19 (.tk 20 (.tk 21 (.o2 22 (.tk 23 (.tk 24 (.o2 25 (.fin) (.nil)))) (.nil)))) (.nil))))) (.nil)) (.o1 14 (.tk 16 (.tk 17 (.tkl 18 (.o1 12 (.o1 19 (.tk 20 (.tk 21 (.o2 22 (.tk 23 (.tk 24 (.o2 25 (.fin) (.nil)))) (.nil)))) (.nil)) (.nil))))) (.nil))) (.o1 12 (.o1 4 (.o1 14 (.tk 16 (.tk 17 (.tkl 18 (.o1 19 (.tk 20 (.tk 21 (.o2 22 (.tk 23 (.tk 24 (.o2 25 (.fin) (.nil)))) (.nil)))) (.nil))))) (.nil)) (.o1 14 (.tk 16 (.tk 17 (.tkl 18 (.o1 4 (.o1 19 (.tk 20 (.tk 21 (.o2 22 (.tk 23 (.tk 24 (.o2 25 (.fin) (.nil)))) (.nil)))) (.nil)) (.o1 19 (.tk 20 (.tk 21 (.o1 4 (.o2 22 (.tk 23 (.tk 24 (.o2 25 (.fin) (.nil)))) (.nil)) (.o2 22 (.o1 4 (.tk 23 (.tk 24 (.o2 25 (.fin) (.nil)))) (.nil)) (.nil))))) (.nil)))))) (.nil))) (.o1 14 (.tk 16 (.tk 17 (.tkl 18 (.o1 4 (.o1 12 (.o1 19 (.tk 20 (.tk 21 (.o2 22 (.tk 23 (.tk 24 (.o2 25 (.fin) (.nil)))) (.nil)))) (.nil)) (.nil)) (.o1 12 (.o1 4 (.o1 19 (.tk 20 (.tk 21 (.o2 22 (.tk 23 (.tk 24 (.o2 25 (.fin) (.nil)))) (.nil)))) (.nil)) (.o1 19 (.tk 20 (.tk 21 (.o1 4 (.o2 22 (.tk 23 (.tk 24 (.o2 25 (.fin) (.nil)))) (.nil)) (.o2 22 (.o1 4 (.tk 23 (.tk 24 (.o2 25 (.fin) (.nil)))) (.nil)) (.nil))))) (.nil))) (.nil)))))) (.nil))))))))))))))))) (by kernel_rfl) (by kernel_rfl) _ (Za.refl _ _) ?_;simp -dsimp -implicitDefEqProofs (disch:=first|with_reducible assumption|omega) [go_sem,ZT x1,ZQ x1,ZT m1,ZQ m1,g31,g32]
    have hset:∀a ac b bc,((ql'.flatMap Y2).set (k*33+31) (.slice a md.yes.length ac)).set (k*33+32) (.slice b md.no.length bc)=(ql'.set k (.slice a md.yes.length ac,.slice b md.no.length bc,md)).flatMap Y2:=fun a ac b bc=>by
      rw[Wm Z9 Yc ql' (i:=k) (m:=31) (a':=(.slice a md.yes.length ac,.slice na md.no.length nc,md)) (by omega) (by decide) (by rw[← hqk];rfl)];rw[Wm Z9 Yc _ (i:=k) (m:=32) (a':=(.slice a md.yes.length ac,.slice b md.no.length bc,md)) (by rw[List.length_set];omega) (by decide) (by rw[Yl (by rw[List.length_set];omega),List.getElem_set_self];rfl),List.set_set]
    have hmd:s.motions[k]?=some md:=by
      rw[← k2,List.getElem?_map,List.getElem?_eq_getElem (by omega),← Yl (z:=Yc) (by omega),← hqk]
      rfl
    have hmap:∀(a b:Value),(ql'.set k (a,b,md)).map (fun x=>x.2.2)=s.motions:=fun a b=>by
      rw[List.map_set,k2];apply List.ext_getElem?;intro n;rw[List.getElem?_set];split
      · rename_i e;subst e
        first
        | exact hmd.symm
        | (split
           · exact hmd.symm
           · rw[List.getElem?_eq_none (by omega)])
      · rfl
    repeat' first
      | refine YF ?_ ?_
      | simp -dsimp -implicitDefEqProofs (disch:=first|with_reducible assumption|omega) [go_sem,ZT x1,ZQ x1,ZT m1,ZQ m1,g31,g32]
    all_goals
      refine Zb.ap (Y8 _ hy (by omega) fun h7 v7 le7 i7 ap=>?_);obtain⟨y1,y2⟩:=ap;obtain⟨y3,y4,_⟩:=Ap.oent (Ap.oent y2);obtain⟨wa,wc,rfl,_⟩:=i7.open
      first
      | refine xkp (Za.forget le7) ?_
      | skip
    repeat' first
      | refine YF ?_ ?_
      | simp -dsimp -implicitDefEqProofs (disch:=first|with_reducible assumption|omega) [go_sem,ZT x1,ZQ x1,ZT m1,ZQ m1,g31,g32]
      | refine xkp (Za.forget le7) ?_
    all_goals
      refine Zb.ap (Y8 _ (hn.up le7) (by omega) fun h8 v8 le8 i8 ap=>?_);obtain⟨z1,z2⟩:=ap;obtain⟨z3,z4,_⟩:=Ap.oent (Ap.oent z2);obtain⟨ua,uc,rfl,_⟩:=i8.open
      first
      | refine xkp (Za.forget (le7.trans le8)) ?_
      | skip
    repeat' first
      | refine YF ?_ ?_
      | simp -dsimp -implicitDefEqProofs (disch:=first|with_reducible assumption|omega) [go_sem,ZT x1,ZQ x1,ZT m1,ZQ m1,g31,g32]
      | refine xkp (Za.forget (le7.trans le8)) ?_
    all_goals
      have hsum:(ql'.map fun a=>(Y2 a).length).sum=s.motions.length*33:=by rw[← List.length_flatMap,hfl]
      have hk33:=Wv (n:=s.motions.length) (w:=33) c1 (m:=32) (by decide);refine⟨by omega,by omega,k+1,ql'.set k (.slice wa md.yes.length wc,.slice ua md.no.length uc,md),h8,⟨by omega,hmap _ _,fun x hx=>?_,k4.trans (le7.trans le8),z3,z4,⟨k8.1,z1⟩⟩,by omega,by simp [Ent,List.lookup],?_⟩
      · rcases List.mem_or_eq_of_mem_set hx with hx|rfl
        · exact(k3 x hx).up (le7.trans le8)
        · exact⟨i7.up le8,i8,hmk.ok⟩
      · rw[hset];exact Za.refl _ _
  have hkl:k=s.motions.length:=by omega
  subst hkl;simp -dsimp -implicitDefEqProofs (disch:=first|with_reducible assumption|omega) [go_sem,ZT t1,ZQ t1,ZT x1,ZQ x1,ZT m1,ZQ m1];refine Vq (e:=75) (sz:=33) (n:=s.motions.length) ok2 (by rw[Z3 Z9,hql']) (by omega) k8 fun h7 le7 sl7=>?_;have le17:PH.le h h7:=(le15.trans k4).trans le7;have kq2:=k2;have kq4:=k4;refine Zb.ap (Y8 _ (hs.k.up le17) (by omega) fun h8 v8 le8 i8 ap=>?_);obtain⟨a82,a81,_⟩:=Ap.oent (Ap.oent ap);obtain⟨ka1,kc1,rfl,_⟩:=i8.open;have rmot:Zh Y2 33 h8 (.slice mta s.motions.length mtc) ql':=by
    have:=Zh.pub (f:=Y2) (w:=33) (l:=ql') (o:=ot) Z9 (by rw[hql'];exact sl7);rw[hql',emt]at this;exact this.up le8
  have imot:Y7 h8 ql':=fun x hx=>(k3 x hx).up (le7.trans le8);have le18:=le17.trans le8;simp -dsimp -implicitDefEqProofs (disch:=first|with_reducible assumption|omega) [go_sem,ZT x1,ZQ x1,ZT m1,ZQ m1];refine Zgu _ (r1'.up le18) (by omega) fun orr ok3 ar=>?_;rw[hrl]at ok3 ⊢;have ar1:=Wf (Wf ar);have rb2:apB orr b2:=ar1.head;have rb1:apB orr b1:=(Z2 ar1).head
  replace ar1:=Z2 (Z2 ar1)
  simp -dsimp -implicitDefEqProofs (disch:=first|with_reducible assumption|omega) [go_sem,ZT rb1,ZQ rb1,ZT x1,ZQ x1,ZT m1,ZQ m1];obtain⟨rta,rtc,ert,_⟩:=Yh ok3;rw[ert];refine xx ?_;refine YZ (γ:=Nat×List QS×PH) (0,rl,h8)
    (fun q=>q.1≤s.ring.length∧xsL q.2.1=s.ring∧Yla q.2.2 q.2.1∧PH.le h8 q.2.2∧q.2.2 b2=noC∧q.2.2 b1=noC∧apO orr L q.2.2)
    (fun q=>[(75,.int .i64 q.1),(74,.int .i64 s.ring.length),(1,.pointer (some ⟨b1,0,none⟩)),(2,.pointer (some ⟨b2,0,none⟩))])
    (fun q=>oent 36 1 orr (vsL q.2.1) (oent 3 1 ox (s.exit.map (.int .i64)) (oent 73 6 om (s.members.flatMap YK) (⟨b2,39,stC Ui Zge,41⟩::⟨b1,39,stC s ⟨.slice pa1 s.purses.length pc1,ovs om s.members.length,.slice ea1 s.entry.length ec1,.slice xa1 s.exit.length xc1,.slice oa1 s.pool.length oc1,.slice da1 s.dues.length dc1,.slice mta s.motions.length mtc,.slice ka1 s.marks.length kc1,.slice rta s.ring.length rtc⟩,41⟩::L)))) (fun q=>q.2.2) (fun q=>s.ring.length-q.1) ?_ ?_ ?_ ?_
  · exact⟨Nat.zero_le _,r2,fun x hx=>(r1'.d x hx).up le18,PH.le_refl _,a82,a81,ar1⟩
  · simp [Ent,List.lookup,WM]
  · exact Za.refl _ _
  rintro⟨k,rl',h9⟩ ⟨k1,k2,k3,k4,k5,k6,k8⟩;simp only at k1 k2 k3 k4 k5 k6 k8 ⊢;have hrl':rl'.length=s.ring.length:=by rw[← k2];simp [xsL]
  by_cases c2:k<s.ring.length
  · obtain ⟨bt,cap,rfl⟩ : ∃ bt cap,orr = some (bt,cap) := by
      cases orr with
      | none=>have:s.ring.length=0:=ok3;omega
      | some p=>exact⟨_,_,rfl⟩
    simp only[ovs,Value.slice.injEq]at ert;obtain⟨rfl,_,rfl⟩:=ert;have hbt:h9 bt=noC:=k8.2;have n21:bt≠b2:=rb2;have n11:bt≠b1:=rb1;obtain⟨qk,hqk⟩:∃qk,qk=gs rl' k:=⟨_,rfl⟩
    have hmem:qk∈rl':=by rw[hqk,Zcp (by omega)];exact List.getElem_mem _
    have hy:=k3 qk hmem;have hbm:qk.2∈s.ring:=by rw[← k2];exact List.mem_map.2 ⟨qk,hmem,rfl⟩
    have fv:=few.b _ hbm;obtain⟨vy,by'⟩:=qk;simp only at hy hbm fv;obtain⟨ya,yc,rfl,_⟩:=hy.open;have g1:∀(K:Value→Prop) (t:Zq K),VP (vsL rl') k K t=K (.slice ya by'.length yc):=fun K t=>Zod (by rw[vsL,List.getElem?_map,List.getElem?_eq_getElem (by omega),← Zcp (by omega),← hqk];rfl);have hfl:(vsL rl').length=s.ring.length:=by simp [vsL,hrl']
    rw[Yg];simp -dsimp -implicitDefEqProofs (disch:=first|with_reducible assumption|omega) [go_sem,ZT x1,ZQ x1,ZT m1,ZQ m1];refine Yr (.tk 0 (.tk 2 (.tk 3 (.tk 5 (.tkl 1 (.tkl 4 (.tk 6 (.tkl 7 (.o1 8 (.tk 9 (.o2 10 (.fin) (.nil))) (.nil)))))))))) (by kernel_rfl) (by kernel_rfl) _ (Za.refl _ _) ?_;simp -dsimp -implicitDefEqProofs (disch:=first|with_reducible assumption|omega) [go_sem,ZT x1,ZQ x1,ZT m1,ZQ m1,g1]
    repeat' first
      | refine YF ?_ ?_
      | simp -dsimp -implicitDefEqProofs (disch:=first|with_reducible assumption|omega) [go_sem,ZT x1,ZQ x1,ZT m1,ZQ m1,g1]
    all_goals
      refine Zb.ap (Y8 _ hy (by omega) fun h10 v10 le10 i10 ap=>?_);obtain⟨y1,y2⟩:=ap;obtain⟨y3,y4,_⟩:=Ap.oent (Ap.oent y2);obtain⟨wa,wc,rfl,_⟩:=i10.open
      first
      | refine xkp (Za.forget le10) ?_
      | skip
    repeat' first
      | refine YF ?_ ?_
      | simp -dsimp -implicitDefEqProofs (disch:=first|with_reducible assumption|omega) [go_sem,ZT x1,ZQ x1,ZT m1,ZQ m1,g1]
      | refine xkp (Za.forget le10) ?_
    all_goals
      refine⟨by rw[hfl];exact c2,k+1,rl'.set k (.slice wa by'.length wc,by'),h10,⟨by omega,?_,fun x hx=>?_,k4.trans le10,y3,y4,⟨k8.1,y1⟩⟩,by omega,by simp [Ent,List.lookup],?_⟩
      · rw[← k2,xsL,xsL,List.map_set];apply List.ext_getElem?;intro n;rw[List.getElem?_set];split
        · rename_i e;subst e;have:(rl'.map (fun x:QS=>x.2))[k]?=some by':=by
            rw[List.getElem?_map,List.getElem?_eq_getElem (by omega),← Zcp (by omega),← hqk];rfl
          first
          | exact this.symm
          | (split
             · exact this.symm
             · rename_i hh;exfalso;apply hh;simp;omega)
        · rfl
      · rcases List.mem_or_eq_of_mem_set hx with hx|rfl
        · exact(k3 x hx).up le10
        · exact i10
      · rw[vsL,vsL,List.map_set,Yg,Nat.mul_one];exact Za.refl _ _
  have hkl:k=s.ring.length:=by omega
  subst hkl;simp -dsimp -implicitDefEqProofs (disch:=first|with_reducible assumption|omega) [go_sem,ZT rb1,ZQ rb1,ZT rb2,ZQ rb2,ZT x1,ZQ x1,ZT m1,ZQ m1,ZT x2,ZQ x2,ZT m2,ZQ m2];have le10:=Ws (h:=h9) k8 (vsL rl');have sl10:=Vt (h:=h9) (sz:=1) (n:=s.ring.length) (o:=orr) (xs:=vsL rl') ok3 (by simp [vsL,hrl']) (by omega);have le8':PH.le h8 (GG h9 orr (vsL rl')):=k4.trans le10;have hst:Zz (GG h9 orr (vsL rl')) (.slice rta s.ring.length rtc) rl':=by
    rw[← ert];rw[← hrl']at sl10 ⊢;exact Zrf sl10 fun p hp=>(k3 p hp).up le10
  have le5':=kq4.trans (le7.trans (le8.trans le8'));have le4':=le5.trans le5';have le2':=le4.trans le4';have hS:Zs (GG h9 orr (vsL rl')) (Zlo ⟨.slice pa1 s.purses.length pc1,.slice none 0 0,.slice ea1 s.entry.length ec1,.slice xa1 s.exit.length xc1,.slice oa1 s.pool.length oc1,.slice da1 s.dues.length dc1,.slice mta s.motions.length mtc,.slice ka1 s.marks.length kc1,.slice rta s.ring.length rtc⟩ (.slice none 0 0) (.slice none 0 0)) (noMX s) :=
    { ok:=⟨hs.ok.p,hs.ok.u,hs.ok.n⟩,p:=i1.up (le2.trans le2'),m:=Zh.nil Yb _,mo:=(fun x hx=>by cases hx),e:=i2.up le2',x:=Yd _ .i64,o:=i4.up le4',oo:=hs.oo,d:=i5.up le5',dd:=hs.dd,t:=⟨ql',rmot.up le8',kq2,fun x hx=>(imot x hx).up le8'⟩,k:=i8.up le8',r:=⟨rl',hst,k2⟩ }
  exact⟨_,_,(Wi orr (vsL rl') _ h9 (by decide)).trans Ztz,by rw[← exx];exact hk _ ⟨.slice pa1 s.purses.length pc1,.slice none 0 0,.slice ea1 s.entry.length ec1,.slice none 0 0,.slice oa1 s.pool.length oc1,.slice da1 s.dues.length dc1,.slice mta s.motions.length mtc,.slice ka1 s.marks.length kc1,.slice rta s.ring.length rtc⟩ om ox (le18.trans le8') ok1 okx hS⟩
open Go.RowKit
theorem Yig {P:Program}{t ty e sz:Nat}{ti:TI}(ht:P.underlying t=some (.slice e))(hti:tI P e=some ti)(hz1:ti.size=sz){L:Own}{h:PH}{K:PK}{b o n cap m:Nat}{src:Value}{news:List Value}
  (hs:Src L h src m news) (hnl:news.length=m*sz) (hmn:m≤n) (hk:Zdy L b o news fun L'=>K (.int .i64 m) L' h) :
  Zgz P (Builtin.copy_ #[t,t] ty #[.slice (some ⟨b,o,none⟩) n cap,src]) L h K:=by
 intro W hg;obtain⟨L',W',hK,hrun,hgd,hkp,hm,hbm⟩:=VZ (P:=P) hg hk;obtain⟨i,d,zv,g1,g2,g3,rfl⟩:=Vz hti;simp only at hz1;refine⟨.int .i64 m,L',h,W',?_,hK,⟨hgd,Zx.mono hkp (fun x hx=>by simp at hx;subst hx;exact hbm),fun x hx=>Or.inl (by rw[← hm];exact List.mem_map_of_mem hx)⟩⟩;have hmin:Nat.min m n=m:=Nat.min_eq_left hmn;rcases hs with⟨rfl,rfl,rfl⟩ | ⟨a,c,rfl,hcells⟩
 ·simp [Builtin.copy_,run_underlying ht,Builtin.lenOf,Builtin.firstCells,sizeOf,typeInfo,g1,hrun,goInt]
 ·have hl:=run_loadCells_list (P:=P) W a news (hcells W hg);rw[hnl,← hz1]at hl;simp [Builtin.copy_,run_underlying ht,Builtin.lenOf,Builtin.firstCells,sizeOf,typeInfo,g1,hmin,hl,hrun,goInt]
def NeB (a b:Nat):Prop:=a≠b
theorem NeB.symm {a b:Nat}(h:NeB a b):NeB b a:=Ne.symm h
section
variable {L:Own} {K:Value→Prop}
@[go_sem ↓] theorem Yqi (b b' ty o c:Nat)(cs:List Value)(hne:NeB b' b):Zdp (⟨b',ty,cs,c⟩::L) b o K=Zdp L b o K:=Zfw b b' ty o c cs hne
@[go_sem ↓] theorem Yrj (b b' ty o c:Nat)(cs vs:List Value)(K:Own→Prop)(hne:NeB b' b)(t:Zq K):Zdy (⟨b',ty,cs,c⟩::L) b o vs K t=Zdy L b o vs fun L'=>K (⟨b',ty,cs,c⟩::L'):=Zkk b b' ty o c cs vs K hne
end
open Go.RowKit Go.Proofs Go.Bl Go.Proofs.Tryz
variable {L:Own} {h:PH} {K:PK}
theorem Zyy (x y:Nat)(hk:K (.tuple #[.int .u64 (((x+18446744073709551616-y)%18446744073709551616:Nat):Int),.int .u64 ((if x<y then 1 else 0:Nat):Int)]) L h):Zb prog 330 [.int .u64 x,.int .u64 y,.int .u64 0] L h K :=
 Zb.extern (fun W=>by
  show (callFunc 330 #[.int .u64 x,.int .u64 y,.int .u64 ((0:Nat):Int)]).run prog W=_;rw[run_callFunc_extern func330 (by kernel_rfl) (by kernel_rfl) (by kernel_rfl) (e:=sub64Entry) (by kernel_rfl),run_sub64 x y 0 (by decide)]
  rfl) hk
theorem Zhx (x y:Int)(hx:0≤x∧x≤18446744073709551615)(hy:0≤y∧y≤18446744073709551615)(hk:K (if y≤x then .tuple #[.int .u64 (x-y),.int .i64 0] else .tuple #[.int .u64 0,.int .i64 11]) L h):Zb prog 260 [.int .u64 x,.int .u64 y] L h K:=by
 obtain⟨m,rfl⟩:=Int.eq_ofNat_of_zero_le hx.1;obtain⟨n,rfl⟩:=Int.eq_ofNat_of_zero_le hy.1;refine ZR func260 rfl (rs:=[_,_]) rfl rfl ZY (by kernel_rfl) rfl rfl ?_;refine xx ?_;refine Zyy m n ?_;by_cases c:(n:Int)≤m
 ·rw[if_pos c]at hk;have e1:(((m+18446744073709551616-n)%18446744073709551616:Nat):Int)=m-n:=by omega
  rw[e1,if_neg (by omega)];refine xx ?_;exact ZO hk
 ·rw[if_neg c]at hk;rw[if_pos (by omega)];refine xx ?_;exact ZO hk
def inP (xs:List Int)(i:Int):Bool:=decide (0≤i)&&decide (i<xs.length)
theorem Zxa {xs:List Int}(v:Value)(hx:Ints h .u64 v xs)(i:Int)(hk:K (.bool (inP xs i)) L h):Zb prog 351 [v,.int .i64 i] L h K:=by
 obtain⟨a,c,rfl,_,hl,_⟩:=hx.open;unfold inP at hk;refine ZR func351 rfl (rs:=[_]) rfl rfl ZY (by kernel_rfl) rfl rfl ?_;by_cases c1:0≤i
 ·refine xx ?_;exact ZO (by simpa [c1] using hk)
 ·refine xx ?_;exact ZO (by simpa [c1] using hk)
theorem hasP {xs:List Int}(v:Value)(hx:Ints h .u64 v xs)(i:Int)(hk:K (if inP xs i then .tuple #[.int .u64 (at0 xs i.toNat),.int .i64 0] else .tuple #[.int .u64 0,.int .i64 170]) L h):Zb prog 326 [v,.int .i64 i] L h K:=by
 have hx0:=hx;obtain⟨a,c,rfl,_,hl,_,hcs⟩:=hx.open;refine ZR func326 rfl (rs:=[_,_]) rfl rfl ZY (by kernel_rfl) rfl rfl ?_;refine xx ?_;refine Zxa _ hx0 i ?_
 cases c1:inP xs i with
 | true =>
  rw[c1]at hk;simp only[inP,Bool.and_eq_true,decide_eq_true_eq]at c1;obtain⟨m,rfl⟩:=Int.eq_ofNat_of_zero_le c1.1;simp only[if_true,Int.toNat_natCast]at hk;simp -dsimp -implicitDefEqProofs (disch:=first|with_reducible assumption|omega) [go_sem,idx hcs];exact ZO hk
 | false =>
  rw[c1]at hk;refine xx ?_;exact ZO (by simpa using hk)
theorem Yza {xs:List Int}(v:Value)(hx:Ints h .u64 v xs)(hl:xs.length≤1000)(i:Nat)(hi:i<xs.length)(n:Int)(hn:0≤n∧n≤18446744073709551615)(hk:∀h' r,PH.le h h'→Ints h' .u64 r (xs.set i n)→K r L h'):Zb prog 327 [v,.int .i64 i,.int .u64 n] L h K:=by
 have hx0:=hx;have hxw:=hx.word;obtain⟨a,c,rfl,_,hl2,_,hcs⟩:=hx.open;refine ZR func327 rfl (rs:=[_]) rfl rfl ZY (by kernel_rfl) rfl rfl ?_;refine xx ?_;refine J5 (e:=22) (z:=.int .u64 0) (by kernel_rfl) U3 rfl rfl .i64 .i64 _ (by omega) (by simp;omega) (by omega) ?_;simp only[Int.toNat_natCast];refine Z6 fun b1 nb1 zb1=>?_;(try simp only[ZU]at nb1);refine xx ?_;refine Yig (e:=22) (sz:=1) (by kernel_rfl) U3 rfl (Src.known hx0.1) (by simp) (Nat.le_refl _) ?_;have hw:wr (List.replicate xs.length (Value.int .u64 0)) 0 (xs.map (Value.int .u64))=xs.map (Value.int .u64):=by
  rw[J9 _ _ _ (by simp)];simp
 simp -dsimp -implicitDefEqProofs (disch:=first|with_reducible assumption|omega) [go_sem,hw,WQ];refine⟨by omega,?_⟩;rw[← List.map_set]
 have:=YE (K:=K) (L:=L) (v:=.slice (some ⟨b1,0,none⟩) xs.length xs.length) (e:=22) (sz:=1) (o:=some (b1,xs.length)) (n:=xs.length) (xs:=(xs.set i n).map (.int .u64)) (h:=h) (L0:=L) ⟨Nat.le_refl _,by simp [maxLen];omega⟩ (by simp) (by omega) ⟨nb1,zb1⟩ fun h' le sl=>ZO (hk h' _ le ⟨by rw[List.length_set];exact sl,fun z hz=>by
  rw[show IntKind.u64.min=0 by decide,show IntKind.u64.max=18446744073709551615 by decide];rcases List.mem_or_eq_of_mem_set hz with hz|rfl
  ·have:=hx0.2 z hz
   rwa [show IntKind.u64.min=0 by decide,show IntKind.u64.max=18446744073709551615 by decide]at this
  ·exact hn⟩)
 simpa only[oent,Nat.mul_one] using this
def Vp (xs:List Int)(i a:Int):List Int×Int:=if inP xs i then (if a≤at0 xs i.toNat then (xs.set i.toNat (at0 xs i.toNat-a),0) else ([],171)) else ([],170)
def Zuy (xs:List Int)(i a:Int):List Int×Int:=if inP xs i then (if at0 xs i.toNat+a≤4611686018427387904 then (xs.set i.toNat (at0 xs i.toNat+a),0) else ([],10)) else ([],170)
def Jr (xs:List Int)(f t a:Int):List Int×Int:=if inP xs f&&inP xs t then (if (Vp xs f a).2=0 then Zuy (Vp xs f a).1 t a else ([],(Vp xs f a).2)) else ([],170)
theorem Zij {xs:List Int}{i:Int}(hi:inP xs i=true):∃m:Nat,i=m∧m<xs.length:=by
 simp only[inP,Bool.and_eq_true,decide_eq_true_eq]at hi;obtain⟨m,rfl⟩:=Int.eq_ofNat_of_zero_le hi.1;exact⟨m,rfl,by omega⟩
theorem GZ {xs:List Int}(v:Value)(hx:Ints h .u64 v xs)(hl:xs.length≤1000)(i a:Int)(ha:0≤a∧a≤18446744073709551615)(hk:∀h' r,PH.le h h'→Ints h' .u64 r (Vp xs i a).1→K (.tuple #[r,.int .i64 (Vp xs i a).2]) L h'):Zb prog 307 [v,.int .i64 i,.int .u64 a] L h K:=by
 have hx0:=hx;have hw:=hx.word;obtain⟨b,c,rfl,_,hl2,_⟩:=hx.open;unfold Vp at hk;refine ZR func307 rfl (rs:=[_,_]) rfl rfl ZY (by kernel_rfl) rfl rfl ?_;refine xx ?_;refine hasP _ hx0 i ?_
 cases c1:inP xs i with
 | false =>
  rw[c1]at hk;simp only[Bool.false_eq_true,if_false]at hk ⊢;refine xx ?_;exact ZO (hk h _ (PH.le_refl _) (Yd h .u64))
 | true =>
  obtain⟨m,rfl,hm⟩:=Zij c1;rw[c1]at hk;simp only[if_true,Int.toNat_natCast]at hk ⊢;have hwm:=hw m;refine xx ?_;refine Zhx (at0 xs m) a hwm ha ?_;by_cases c2:a≤at0 xs m
  ·rw[if_pos c2]at hk ⊢;refine xx ?_;refine Yza _ hx0 hl m hm _ (by omega) fun h1 r le i1=>?_;obtain⟨ra,rc,rfl,_⟩:=i1.open;have h2:=hk h1 _ le i1;rw[List.length_set]at h2;refine xx ?_;exact ZO h2
  ·rw[if_neg c2]at hk ⊢;refine xx ?_;exact ZO (hk h _ (PH.le_refl _) (Yd h .u64))
theorem Yfv {xs:List Int}(v:Value)(hx:Ints h .u64 v xs)(hl:xs.length≤1000)(i a:Int)(ha:0≤a∧a≤18446744073709551615)(hk:∀h' r,PH.le h h'→Ints h' .u64 r (Zuy xs i a).1→K (.tuple #[r,.int .i64 (Zuy xs i a).2]) L h'):Zb prog 257 [v,.int .i64 i,.int .u64 a] L h K:=by
 have hx0:=hx;have hw:=hx.word;obtain⟨b,c,rfl,_,hl2,_⟩:=hx.open;unfold Zuy at hk;refine ZR func257 rfl (rs:=[_,_]) rfl rfl ZY (by kernel_rfl) rfl rfl ?_;refine xx ?_;refine hasP _ hx0 i ?_
 cases c1:inP xs i with
 | false =>
  rw[c1]at hk;simp only[Bool.false_eq_true,if_false]at hk ⊢;refine xx ?_;exact ZO (hk h _ (PH.le_refl _) (Yd h .u64))
 | true =>
  obtain⟨m,rfl,hm⟩:=Zij c1;rw[c1]at hk;simp only[if_true,Int.toNat_natCast]at hk ⊢;have hwm:=hw m;refine xx ?_;refine WO (at0 xs m) a hwm ha ?_;by_cases c2:at0 xs m+a≤4611686018427387904
  ·rw[if_pos c2]at hk;rw[YR (by omega)];refine xx ?_;refine Yza _ hx0 hl m hm _ (by omega) fun h1 r le i1=>?_;obtain⟨ra,rc,rfl,_⟩:=i1.open;have h2:=hk h1 _ le i1;rw[List.length_set]at h2;refine xx ?_;exact ZO h2
  ·rw[if_neg c2]at hk;by_cases c3:at0 xs m+a≤18446744073709551615
   ·rw[YR c3];refine xx ?_;exact ZO (hk h _ (PH.le_refl _) (Yd h .u64))
   ·rw[WG c3];refine xx ?_;exact ZO (hk h _ (PH.le_refl _) (Yd h .u64))
theorem Zzh {xs:List Int}{i a:Int}:(Vp xs i a).1.length≤xs.length:=by
 unfold Vp;split
 ·split
  ·simp
  ·simp
 ·simp
theorem Yfu {xs:List Int}(v:Value)(hx:Ints h .u64 v xs)(hl:xs.length≤1000)(f t a:Int)(ha:0≤a∧a≤18446744073709551615)(hk:∀h' r,PH.le h h'→Ints h' .u64 r (Jr xs f t a).1→K (.tuple #[r,.int .i64 (Jr xs f t a).2]) L h'):Zb prog 306 [v,.int .i64 f,.int .i64 t,.int .u64 a] L h K:=by
 have hx0:=hx;obtain⟨b,c,rfl,_,hl2,_⟩:=hx.open;unfold Jr at hk;refine ZR func306 rfl (rs:=[_,_]) rfl rfl ZY (by kernel_rfl) rfl rfl ?_;refine xx ?_;refine Zxa _ hx0 f ?_
 cases c1:inP xs f with
 | false =>
  simp only[c1,Bool.false_and,Bool.false_eq_true,if_false]at hk;refine xx ?_;exact ZO (hk h _ (PH.le_refl _) (Yd h .u64))
 | true =>
 refine xx ?_;refine Zxa _ hx0 t ?_
 cases c2:inP xs t with
 | false =>
  simp only[c1,c2,Bool.and_false,Bool.false_eq_true,if_false]at hk;refine xx ?_;exact ZO (hk h _ (PH.le_refl _) (Yd h .u64))
 | true =>
 simp only[c1,c2,Bool.and_self,if_true]at hk;refine xx ?_;refine GZ _ hx0 hl f a ha fun h1 r le1 i1=>?_;have hdl:=Zzh (xs:=xs) (i:=f) (a:=a);obtain⟨q,eq⟩:∃q,q=Vp xs f a:=⟨_,rfl⟩
 rw[← eq]at i1 hdl hk ⊢;obtain⟨ys,e⟩:=q;simp only at i1 hdl hk ⊢;have i10:=i1;obtain⟨ra,rc,rfl,_⟩:=i1.open;by_cases c3:e=0
 ·rw[if_pos c3]at hk;subst c3;refine xx ?_;refine Yfv _ i10 (by omega) t a ha fun h2 r2 le2 i2=>?_;have h3:=hk h2 r2 (le1.trans le2) i2;obtain⟨sa,sc,rfl,_⟩:=i2.open;refine xx ?_;exact ZO h3
 ·rw[if_neg c3]at hk;refine xx ?_;exact ZO (hk h1 _ le1 (Yd h1 .u64))
theorem u8or (x y:Int)(hx:0≤x∧x≤255)(hy:0≤y∧y≤255):(0≤bits .or .u8 x y∧bits .or .u8 x y≤255)∧∀k,k<8→(bits .or .u8 x y/2 ^ k%2=1↔x/2 ^ k%2=1∨y/2 ^ k%2=1):=by
 obtain⟨n,rfl⟩:=Int.eq_ofNat_of_zero_le hx.1;obtain⟨m,rfl⟩:=Int.eq_ofNat_of_zero_le hy.1;have e:=u8_or_nat n m (by omega) (by omega);have hlt:n ||| m<2 ^ 8:=Nat.or_lt_two_pow (by omega) (by omega)
 rw[e];refine⟨⟨by omega,by omega⟩,fun k hk=>?_⟩;have ht:(n ||| m).testBit k=(n.testBit k||m.testBit k):=Nat.testBit_or ..;simp only[Nat.testBit_eq_decide_div_mod_eq]at ht;have h2:((n ||| m)/2 ^ k%2=1)↔(n/2 ^ k%2=1∨m/2 ^ k%2=1):=by
  rw[← decide_eq_true_iff (p:=(n ||| m)/2 ^ k%2=1),ht,Bool.or_eq_true,decide_eq_true_eq,decide_eq_true_eq]
 constructor
 ·intro h1;rcases h2.1 (by exact_mod_cast h1) with h3|h3
  ·exact Or.inl (by exact_mod_cast h3)
  ·exact Or.inr (by exact_mod_cast h3)
 ·intro h1;have:=h2.2 (h1.imp (fun h=>by exact_mod_cast h) (fun h=>by exact_mod_cast h))
  exact_mod_cast this
def orK (xs ys:List Int)(k:Nat):List Int:=(List.range xs.length).map fun j=>if j<k then bits .or .u8 (at0 xs j) (at0 ys j) else at0 xs j
theorem Jc (xs ys:List Int)(k:Nat):(orK xs ys k).length=xs.length:=by simp [orK]
theorem Ylk {xs ys:List Int}{k j:Nat}(hj:j<xs.length):at0 (orK xs ys k) j=if j<k then bits .or .u8 (at0 xs j) (at0 ys j) else at0 xs j:=by
 rw[← Yx (by rw[Jc];exact hj)];simp [orK]
theorem Yhm (xs ys:List Int):orK xs ys 0=xs:=by
 apply List.ext_getElem (Jc _ _ _);intro j h1 h2;simp [orK,Yx h2]
theorem Yqy {xs ys:List Int}{k:Nat}:(orK xs ys k).set k (bits .or .u8 (at0 xs k) (at0 ys k))=orK xs ys (k+1):=by
 apply List.ext_getElem (by rw[List.length_set,Jc,Jc]);intro j h1 h2;rw[List.getElem_set];split
 ·rename_i e;subst e;simp [orK]
 ·rename_i e;simp only[orK,List.getElem_map,List.getElem_range];by_cases c:j<k
  ·rw[if_pos c,if_pos (by omega)]
  ·rw[if_neg c,if_neg (by omega)]
theorem Yju {xs ys:List Int}(hx:∀i,0≤at0 xs i∧at0 xs i≤255)(hy:∀i,0≤at0 ys i∧at0 ys i≤255)(k:Nat):∀z∈orK xs ys k,0≤z∧z≤255:=fun z hz=>by
 obtain⟨j,_,rfl⟩:=List.mem_map.1 hz;split
 ·exact(u8or _ _ (hx j) (hy j)).1
 ·exact hx j
def Zew (xs ys:List Int)(n:Int):List Int×Int:=if UT xs 128&&(decide (0≤n)&&decide (n≤128))&&UT ys n then (orK xs ys ys.length,0) else ([],60)
theorem Ygg {xs:List Int}(v:Value)(hx:Ints h .u8 v xs)(hl:xs.length≤1000)(hk:∀o,okO o xs.length→apO o L h→K (ovs o xs.length) (oent 5 1 o (xs.map (.int .u8)) L) h):Zb prog 276 [v] L h K:=by
 have hx0:=hx;obtain⟨a,c,rfl,_⟩:=hx.open;refine ZR func276 rfl (rs:=[_]) rfl rfl ZY (by kernel_rfl) rfl rfl ?_;refine xx ?_;refine Z8 (t:=36) (e:=5) (sz:=1) (bytes:=1) (z:=[.int .u8 0]) (by kernel_rfl) Zmw rfl rfl rfl rfl (by decide) [] _ none 0 [] rfl rfl (Src.known hx0.1) (by simp) (WC _ _) (by simp [maxLen];omega) (by omega) ?_;intro o k1 k2 k3;simp only[Nat.zero_add,List.nil_append]at k1 k2 ⊢;refine xx ?_;exact ZO (hk o k1 k2)
theorem Zqz {n:Int}(h1:n≤128):G9 n≤16:=by
 unfold G9;split<;>omega
theorem Yii {xs ys:List Int}(v u:Value)(hx:Ints h .u8 v xs)(hy:Ints h .u8 u ys)(n:Int)(hn : -9223372036854775808≤n∧n≤9223372036854775807)(hk:∀h' r,PH.le h h'→Ints h' .u8 r (Zew xs ys n).1→K (.tuple #[r,.int .i64 (Zew xs ys n).2]) L h'):Zb prog 308 [v,u,.int .i64 n] L h K:=by
 have hx0:=hx;have hy0:=hy;have hbx:=hx.byte;have hby:=hy.byte;obtain⟨a,c,rfl,_,hlx,_,hcx⟩:=hx.open;obtain⟨a2,c2,rfl,_,hly,_,hcy⟩:=hy.open;have bad:(UT xs 128&&(decide (0≤n)&&decide (n≤128))&&UT ys n)=false→K (.tuple #[.slice none 0 0,.int .i64 60]) L h:=fun e=>by
  have:=hk h (.slice none 0 0) (PH.le_refl _) (by rw[Zew,e];exact Yd h .u8);rw[Zew,e]at this;exact this
 refine ZR func308 rfl (rs:=[_,_]) rfl rfl ZY (by kernel_rfl) rfl rfl ?_;refine xx ?_;refine Jy _ hx0 ?_
 cases q1:UT xs 128 with
 | false =>
  have:=bad (by rw[q1];rfl);refine xx ?_;exact ZO this
 | true =>
 by_cases q2:n<0
 ·have:=bad (by rw[decide_eq_false (p:=0≤n) (by omega)];simp);refine xx ?_;exact ZO this
 by_cases q3:128<n
 ·have:=bad (by rw[decide_eq_false (p:=n≤128) (by omega)];simp);refine xx ?_;exact ZO this
 refine xx ?_;refine Zio _ n hy0 hn.1 hn.2 ?_
 cases q4:UT ys n with
 | false =>
  have:=bad (by rw[q4];simp);refine xx ?_;exact ZO this
 | true =>
 have eM:(UT xs 128&&(decide (0≤n)&&decide (n≤128))&&UT ys n)=true:=by
  rw[q1,q4,decide_eq_true (p:=0≤n) (by omega),decide_eq_true (p:=n≤128) (by omega)];rfl
 rw[Zew,eM]at hk;simp only[if_true]at hk;have lx:xs.length=16:=by
  rw[UT,Bool.and_eq_true,decide_eq_true_eq]at q1;have h1:=q1.1.2.2;rw[show G9 128=16 by decide]at h1;omega
 have ly:ys.length≤16:=by
  rw[UT,Bool.and_eq_true,decide_eq_true_eq]at q4;have h1:=q4.1.2.2;have h2:=Zqz (n:=n) (by omega);omega
 refine xx ?_;refine Ygg _ hx0 (by omega) fun o k1 k2=>?_
 cases o with
 | none =>
  have:xs.length=0:=k1;omega
 | some p =>
 obtain⟨b,cap⟩:=p;simp only[ovs,oent];have hb:=k2.2;refine xx ?_;refine YZ (γ:=Nat) 0 (fun k=>k≤ys.length)
  (fun k=>[(32,.int .i64 k),(31,.int .i64 ys.length),(30,.slice a2 ys.length c2),(8,.slice (some ⟨b,0,none⟩) xs.length cap)])
  (fun k=>⟨b,5,(orK xs ys k).map (.int .u8),cap⟩::L) (fun _=>h) (fun k=>ys.length-k) ?_ ?_ ?_ ?_
 ·exact Nat.zero_le _
 ·simp [Ent,List.lookup,WM]
 ·rw[Yhm];exact Za.refl _ _
 intro k hk0;have hlK:=Jc xs ys k;by_cases c1:k<ys.length
 ·have ek:at0 (orK xs ys k) k=at0 xs k:=by rw[Ylk (by omega),if_neg (Nat.lt_irrefl _)]
  simp -dsimp -implicitDefEqProofs (disch:=first|with_reducible assumption|omega) [go_sem,idx hcy,WQ,ek];refine⟨by omega,k+1,by omega,by omega,by simp [Ent,List.lookup],?_⟩;rw[← Yqy,List.map_set];exact Za.refl _ _
 ·have hke:k=ys.length:=by omega
  subst hke;refine xx ?_
  have:=YE (K:=K) (L:=L) (v:=.tuple #[.slice (some ⟨b,0,none⟩) xs.length cap,.int .i64 0]) (e:=5) (sz:=1) (o:=some (b,cap)) (n:=xs.length) (xs:=(orK xs ys ys.length).map (.int .u8)) (h:=h) (L0:=L) k1 (by simp [Jc]) (by omega) k2 fun h' le sl=>ZO (hk h' _ le ⟨by rw[Jc];exact sl,fun z hz=>by
   rw[show IntKind.u8.min=0 by decide,show IntKind.u8.max=255 by decide]
   exact Yju hbx hby _ z hz⟩)
  simpa only[oent,Nat.mul_one] using this
theorem Yrg {xs ys:List Int}(hx:∀i,0≤at0 xs i∧at0 xs i≤255)(hy:∀i,0≤at0 ys i∧at0 ys i≤255)(hl:ys.length≤xs.length)(i:Nat):Vs (orK xs ys ys.length) i=(Vs xs i||Vs ys i):=by
 have e8:((i:Int)/8).toNat=i/8:=by omega
 have em:((i:Int)%8).toNat=i%8:=by omega
 unfold Vs;rw[Jc,e8,em];by_cases c:i/8<xs.length
 ·have d1:decide (0≤(i:Int)∧(i:Int)/8<xs.length)=true:=decide_eq_true ⟨by omega,by omega⟩;rw[d1,Bool.true_and,Bool.true_and,Ylk c];by_cases c2:i/8<ys.length
  ·have d2:decide (0≤(i:Int)∧(i:Int)/8<ys.length)=true:=decide_eq_true ⟨by omega,by omega⟩;rw[d2,Bool.true_and,if_pos c2];have:=(u8or _ _ (hx (i/8)) (hy (i/8))).2 (i%8) (by omega);rw[← Bool.decide_or];exact decide_eq_decide.2 this
  ·have d2:decide (0≤(i:Int)∧(i:Int)/8<ys.length)=false:=decide_eq_false (by omega);rw[d2,Bool.false_and,Bool.or_false,if_neg c2]
 ·have d1:decide (0≤(i:Int)∧(i:Int)/8<xs.length)=false:=decide_eq_false (by omega);have d2:decide (0≤(i:Int)∧(i:Int)/8<ys.length)=false:=decide_eq_false (by omega);rw[d1,d2]
  rfl
theorem GW {ql:List QM}{ms:List Zm}(v:Value)(hv:Zh Y2 33 h v ql)(hq:ql.map (fun x=>x.2.2)=ms)(hm:Y7 h ql)(hl:ql.length≤1000)(hb:∀m∈ms,m.yes.length≤1000∧m.no.length≤1000)
    (hk:∀h' o ql',PH.le h h'→okO o ms.length→apO o L h'→ql'.map (fun x=>x.2.2)=ms→Y7 h' ql'→K (ovs o ms.length) (oent 75 33 o (ql'.flatMap Y2) L) h') :
    Zb prog 269 [v] L h K:=by
  have hql:ql.length=ms.length:=by rw[← hq,List.length_map]
  have hv0:=hv;obtain⟨va,vc,rfl,_⟩:=hv.open;refine ZR func269 rfl (rs:=[_]) rfl rfl ZY (by kernel_rfl) rfl rfl ?_;refine xx ?_;refine Zai _ hv0 hm hl fun ot ok2 at1=>?_;rw[hql]at ok2 ⊢;obtain⟨mta,mtc,emt,_⟩:=Yh ok2;rw[emt];refine xx ?_;refine YZ (γ:=Nat×List QM×PH) (0,ql,h)
    (fun q=>q.1≤ms.length∧q.2.1.map (fun x=>x.2.2)=ms∧Y7 q.2.2 q.2.1∧PH.le h q.2.2∧apO ot L q.2.2)
    (fun q=>[(9,.int .i64 q.1),(8,.int .i64 ms.length),(3,.slice mta ms.length mtc)])
    (fun q=>oent 75 33 ot (q.2.1.flatMap Y2) L) (fun q=>q.2.2) (fun q=>ms.length-q.1) ?_ ?_ ?_ ?_
  · exact⟨Nat.zero_le _,hq,hm,PH.le_refl _,at1⟩
  · simp [Ent,List.lookup,WM]
  · exact Za.refl _ _
  rintro⟨k,ql',h6⟩ ⟨k1,k2,k3,k4,k8⟩;simp only at k1 k2 k3 k4 k8 ⊢;have hql':ql'.length=ms.length:=by rw[← k2,List.length_map]
  by_cases c1:k<ms.length
  · obtain ⟨bt,cap,rfl⟩ : ∃ bt cap,ot = some (bt,cap) := by
      cases ot with
      | none=>have:ms.length=0:=ok2;omega
      | some p=>exact⟨_,_,rfl⟩
    simp only[ovs,Value.slice.injEq]at emt;obtain⟨rfl,_,rfl⟩:=emt;have hbt:h6 bt=noC:=k8.2;obtain⟨qk,hqk⟩:∃qk,qk=gr Yc ql' k:=⟨_,rfl⟩
    have hmem:qk∈ql':=by rw[hqk,Yl (by omega)];exact List.getElem_mem _
    have hmk:Zw h6 qk:=k3 qk hmem;have hmdm:qk.2.2∈ms:=by rw[← k2];exact List.mem_map.2 ⟨qk,hmem,rfl⟩
    obtain⟨vy,vn,md⟩:=qk;have hy:=hmk.y;have hn:=hmk.n;simp only at hy hn;obtain⟨ya,yc,rfl,_⟩:=hy.open;obtain⟨na,nc,rfl,_⟩:=hn.open;simp only at hmdm;have fv:=hb md hmdm;have g31:∀(K:Value→Prop) (t:Zq K),VP (ql'.flatMap Y2) (k*33+31) K t=K (.slice ya md.yes.length yc):=fun K t=>Yq Z9 Yc ql' (by omega) (by decide) (by rw[← hqk];rfl) K t;have g32:∀(K:Value→Prop) (t:Zq K),VP (ql'.flatMap Y2) (k*33+32) K t=K (.slice na md.no.length nc):=fun K t=>Yq Z9 Yc ql' (by omega) (by decide) (by rw[← hqk];rfl) K t;have hfl:(ql'.flatMap Y2).length=ms.length*33:=by rw[Z3 Z9,hql']
    rw[Yg];refine xx ?_;refine Yr (.tk 0 (.tk 1 (.tk 2 (.tk 3 (.tk 4 (.tk 5 (.tk 6 (.tk 7 (.tk 10 (.tk 11 (.tk 12 (.tk 13 (.tkl 8 (.tkl 14 (.o1 9 (.o1 15 (.tk 16 (.tk 17 (.o2 18 (.tk 19 (.tk 20 (.o2 21 (.fin) (.nil)))) (.nil)))) (.nil)) (.nil)))))))))))))))) (by kernel_rfl) (by kernel_rfl) _ (Za.refl _ _) ?_;simp -dsimp -implicitDefEqProofs (disch:=first|with_reducible assumption|omega) [go_sem,g31,g32];have hset:∀a ac b bc,((ql'.flatMap Y2).set (k*33+31) (.slice a md.yes.length ac)).set (k*33+32) (.slice b md.no.length bc)=(ql'.set k (.slice a md.yes.length ac,.slice b md.no.length bc,md)).flatMap Y2:=fun a ac b bc=>by
      rw[Wm Z9 Yc ql' (i:=k) (m:=31) (a':=(.slice a md.yes.length ac,.slice na md.no.length nc,md)) (by omega) (by decide) (by rw[← hqk];rfl)];rw[Wm Z9 Yc _ (i:=k) (m:=32) (a':=(.slice a md.yes.length ac,.slice b md.no.length bc,md)) (by rw[List.length_set];omega) (by decide) (by rw[Yl (by rw[List.length_set];omega),List.getElem_set_self];rfl),List.set_set]
    have hmd:ms[k]?=some md:=by
      rw[← k2,List.getElem?_map,List.getElem?_eq_getElem (by omega),← Yl (z:=Yc) (by omega),← hqk]
      rfl
    have hmap:∀(a b:Value),(ql'.set k (a,b,md)).map (fun x=>x.2.2)=ms:=fun a b=>by
      rw[List.map_set,k2];apply List.ext_getElem?;intro n;rw[List.getElem?_set];split
      · rename_i e;subst e
        first
        | exact hmd.symm
        | (split
           · exact hmd.symm
           · rw[List.getElem?_eq_none (by omega)])
      · rfl
    repeat' first
      | refine YF ?_ ?_
      | simp -dsimp -implicitDefEqProofs (disch:=first|with_reducible assumption|omega) [go_sem,g31,g32]
    all_goals
      refine Zb.ap (Y8 _ hy (by omega) fun h7 v7 le7 i7 ap=>?_);obtain⟨y1,y2⟩:=ap;obtain⟨wa,wc,rfl,_⟩:=i7.open
      first
      | refine xkp (Za.forget le7) ?_
      | skip
    repeat' first
      | refine YF ?_ ?_
      | simp -dsimp -implicitDefEqProofs (disch:=first|with_reducible assumption|omega) [go_sem,g31,g32]
      | refine xkp (Za.forget le7) ?_
    all_goals
      refine Zb.ap (Y8 _ (hn.up le7) (by omega) fun h8 v8 le8 i8 ap=>?_);obtain⟨z1,z2⟩:=ap;obtain⟨ua,uc,rfl,_⟩:=i8.open
      first
      | refine xkp (Za.forget (le7.trans le8)) ?_
      | skip
    repeat' first
      | refine YF ?_ ?_
      | simp -dsimp -implicitDefEqProofs (disch:=first|with_reducible assumption|omega) [go_sem,g31,g32]
      | refine xkp (Za.forget (le7.trans le8)) ?_
    all_goals
      have hsum:(ql'.map fun a=>(Y2 a).length).sum=ms.length*33:=by rw[← List.length_flatMap,hfl]
      have hk33:=Wv (n:=ms.length) (w:=33) c1 (m:=32) (by decide);refine⟨by omega,by omega,k+1,ql'.set k (.slice wa md.yes.length wc,.slice ua md.no.length uc,md),h8,⟨by omega,hmap _ _,fun x hx=>?_,k4.trans (le7.trans le8),⟨k8.1,z1⟩⟩,by omega,by simp [Ent,List.lookup],?_⟩
      · rcases List.mem_or_eq_of_mem_set hx with hx|rfl
        · exact(k3 x hx).up (le7.trans le8)
        · exact⟨i7.up le8,i8,hmk.ok⟩
      · rw[hset];exact Za.refl _ _
  have hkl:k=ms.length:=by omega
  subst hkl;rw[← emt];refine xx ?_;exact ZO (hk h6 ot ql' k4 ok2 k8 k2 k3)
def Yay (m:Zm):Bool:=decide (m.state=3)||decide (m.state=4)
theorem Yff (q:QM)(hk:K (.bool (Yay q.2.2)) L h):Zb prog 353 [.agg (Y2 q).toArray] L h K:=by
 unfold Yay at hk;refine ZR func353 rfl (rs:=[_]) rfl rfl ZY (by kernel_rfl) rfl rfl ?_;simp -dsimp -implicitDefEqProofs (disch:=first|with_reducible assumption|omega) [go_sem,Y2,Jb,List.cons_append,List.nil_append];refine Z6 fun b1 nb1 zb1=>?_;(try simp only[ZU]at nb1);by_cases c1:q.2.2.state=3
 ·simp -dsimp -implicitDefEqProofs (disch:=first|with_reducible assumption|omega) [go_sem,Y2,Jb,List.cons_append,List.nil_append,c1];exact ZP (ZO (by simpa [c1] using hk))
 ·simp -dsimp -implicitDefEqProofs (disch:=first|with_reducible assumption|omega) [go_sem,Y2,Jb,List.cons_append,List.nil_append,c1];exact ZP (ZO (by simpa [c1] using hk))
def atO (ms:List Zm):Nat:=ms.findIdx Yay
theorem Ymd (ms:List Zm):atO ms≤ms.length:=List.findIdx_le_length
theorem Zvq {ql:List QM}{ms:List Zm}(v:Value)(hv:Zh Y2 33 h v ql)(hq:ql.map (fun x=>x.2.2)=ms)(hk:K (.int .i64 (if atO ms<ms.length then (atO ms:Int) else -1)) L h) :
  Zb prog 352 [v,.func (.func 353) #[] #[]] L h K:=by
 have hql:ql.length=ms.length:=by rw[← hq,List.length_map]
 have hv0:=hv;obtain⟨va,vc,rfl,_⟩:=hv.open;have hel:∀j (hj:j<ms.length),ms[j]=(gr Yc ql j).2.2:=fun j hj=>by
  subst hq;rw[Yl (by omega)];simp
 refine ZR func352 rfl (rs:=[_]) rfl rfl ZY (by kernel_rfl) rfl rfl ?_;refine xx ?_;refine Vj (0:Nat) (fun k=>k≤ms.length∧∀j,j<k→∀hj:j<ms.length,Yay ms[j]=false) (fun k=>[(8,.int .i64 k),(7,.int .i64 ql.length),(0,.slice va ql.length vc),(1,.func (.func 353) #[] #[])]) (fun k=>ms.length-k) ?_ ?_ ?_
 ·exact⟨Nat.zero_le _,fun j hj=>by omega⟩
 ·simp [Ent,List.lookup,WM]
 rintro k ⟨k1,k2⟩;by_cases c1:k<ms.length
 ·have c1':k<ql.length:=by omega
  simp -dsimp -implicitDefEqProofs (disch:=first|with_reducible assumption|omega) [go_sem,↓Zam Yc (by decide) hv0];refine Yff _ ?_;rw[← hel k c1]
  cases c2:Yay ms[k] with
  | true =>
   have e:atO ms=k:=(List.findIdx_eq c1).2 ⟨c2,fun j hj=>k2 j hj (by omega)⟩;rw[e,if_pos c1]at hk;refine xx ?_;exact ZO hk
  | false =>
   refine xx ?_;refine⟨k+1,⟨by omega,fun j hj hj2=>?_⟩,by omega,by simp [Ent,List.lookup],Za.refl _ _⟩;by_cases e:j=k
   ·subst e;exact c2
   ·exact k2 j (by omega) hj2
 ·have hkl:k=ms.length:=by omega
  subst hkl;have e:atO ms=ms.length:=List.findIdx_eq_length.2 fun x hx=>by
   obtain⟨j,hj,rfl⟩:=List.mem_iff_getElem.1 hx;exact k2 j hj hj
  rw[e,if_neg (Nat.lt_irrefl _)]at hk;refine xx ?_;exact ZO hk
def VL (p:Ze)(d:Zd)(ep:Int):Zm:=⟨d.acct,d.what,d.par,d.to,d.amt,ep+p.poll,0,1,List.replicate 16 0,List.replicate 16 0⟩
def Ge (p:Ze)(ms:List Zm)(d:Zd)(ep:Int):List Zm×Int×Int :=
 if !Ym p then ([],0,70) else if !(decide (d.kind=6)&&ZW d) then ([],0,80) else if !wi ep 0 1073741824 then ([],0,2) else if 31<atO ms then ([],0,161)
 else if atO ms=ms.length then (ms++[VL p d ep],(atO ms:Int),0) else (ms.set (atO ms) (VL p d ep),(atO ms:Int),0)
open Go.RowKit Go.Bl
theorem Zgj (e sz:Nat)(o:Option (Nat×Nat))(xs:List Value)(A L:Own):(A++oent e sz o xs L).Perm (oent e sz o xs (A++L)):=by
 cases o with
 | none=>exact List.Perm.refl _
 | some p=>exact List.perm_middle
theorem Za.sub {L L0:Own}{h:PH}(hs:L0.Sublist L):Za L h L0 h:=fun W hg =>
 ⟨⟨hg.sub,fun e he=>hg.own e (hs.subset he),hg.nodup.sublist (hs.map _),fun e he=>hg.apart e (hs.subset he)⟩,fun e he=>List.mem_map_of_mem (hs.subset he)⟩
theorem Ycd {b:Nat}{L0 L:Own}(hs:L0.Sublist L):ZU b L→ZU b L0:=by
 induction hs with
 | slnil=>exact id
 | cons a _ ih=>exact fun h=>ih h.2
 | cons_cons a _ ih=>exact fun h=>⟨h.1,ih h.2⟩
theorem JV (m:Zn):∀u∈UY m,u.oneCell'=true:=fun u hu=>by
 simp only[UY,List.mem_cons,List.not_mem_nil,or_false]at hu;rcases hu with rfl|rfl|rfl|rfl<;>rfl
end Go.X
