/- Lemmas and contracts. Conditions: as each says. -/
import Derived.Test.YtpdidilobgimcaaGreatQ20
set_option linter.unusedVariables false
set_option linter.unusedSimpArgs false
set_option maxHeartbeats 12800000
set_option maxRecDepth 20000
namespace Go.X
open Go.RowKit Go.Proofs Go.Bl Go.Proofs.Tryz
variable {L:Own} {h:PH} {K:PK}
theorem Jh {α:Type}{f:α→List Value}(h1:∀a,∀u∈f a,u.oneCell'=true)(l:List α):∀u∈l.flatMap f,u.oneCell'=true:=fun u hu=>by
 obtain⟨a,_,hb⟩:=List.mem_flatMap.1 hu;exact h1 a u hb
theorem Zpq (m:Zc):∀u∈Ym m,u.oneCell'=true:=fun u hu=>by
 simp only[Ym,List.mem_cons,List.not_mem_nil,or_false]at hu;rcases hu with rfl|rfl|rfl|rfl|rfl|rfl<;>rfl
theorem Ycb (m:Zk):∀u∈V1 m,u.oneCell'=true:=fun u hu=>by
 simp only[V1,List.mem_cons,List.not_mem_nil,or_false]at hu;rcases hu with rfl|rfl|rfl|rfl<;>rfl
theorem Gr (m:Zi):∀u∈YA m,u.oneCell'=true:=fun u hu=>by
 simp only[YA,List.mem_cons,List.not_mem_nil,or_false]at hu;rcases hu with rfl|rfl|rfl<;>rfl
theorem Zcr {v:Value}{h:PH}{k:IntKind}{xs:List Int}(hx:Ints h k v xs):v.oneCell'=true:=by
 obtain⟨a,c,rfl,_⟩:=hx.open
 rfl
theorem Yex {h:PH}{q:QM}(hq:Zs h q):∀u∈Wb q,u.oneCell'=true:=fun u hu=>by
 have h1:=Zcr hq.y;have h2:=Zcr hq.n;simp only[Wb,GT,List.mem_cons,List.mem_append,List.not_mem_nil,or_false]at hu;rcases hu with rfl|rfl|hu|hu
 ·rfl
 ·rfl
 ·obtain rfl|rfl|rfl|rfl|rfl|rfl|rfl|rfl|rfl|rfl|rfl|rfl|rfl|rfl|rfl|rfl|rfl|rfl|rfl|rfl|rfl|rfl|rfl|rfl:=hu<;>rfl
 ·rcases hu with rfl|rfl|rfl|rfl|rfl|rfl|rfl
  ·rfl
  ·rfl
  ·rfl
  ·rfl
  ·rfl
  ·exact h1
  ·exact h2
theorem Zdy {l:List Zc}(v:Value)(hv:Zg Ym 6 h v l)(hl:l.length≤1000)(hk:∀o,okO o l.length→apO o L h→K (ovs o l.length) (oent 100 6 o (l.flatMap Ym) L) h):Zb prog 80 [v] L h K:=by
 have hx:=hv;obtain⟨a,ca,rfl,hna,hca,h0,_⟩:=hx.open;refine ZS func80 rfl (rs:=[_]) rfl rfl ZY (by kernel_rfl) rfl rfl ?_;refine xx ?_
 cases ha:a.isNone with
 | true =>
  have ha':a=none:=by simpa using ha
  subst ha';have hl0:l.length=0:=by have:=h0 rfl;omega
  have hx':l=[]:=List.eq_nil_of_length_eq_zero hl0;subst hx';refine xx ?_;exact ZP (hk none rfl trivial)
 | false =>
  refine xx ?_;refine Z0 fun b1 nb1 zb1=>?_;(try simp only[ZT]at nb1);refine xx ?_;refine Z3 (t:=26) (e:=100) (sz:=6) (bytes:=48) (by kernel_rfl) Znn rfl rfl rfl rfl (by decide) [] L (some (b1,0)) 0 [] ⟨Nat.le_refl _,Nat.zero_le _⟩ rfl (Src.known hx.s) (news:=l.flatMap Ym) (Z1 Yc l) (Jh Zpq l) (by simp [maxLen];omega) (by omega) ?_;intro o' j1 j2 j3;simp only[Nat.zero_add,List.nil_append]at j1 j2 ⊢;refine xx ?_;exact ZP (hk o' j1 j2)
theorem Zqr {l:List Int}(v:Value)(hv:Ints h .i64 v l)(hl:l.length≤1000)(hk:∀h' r,PH.le h h'→Ints h' .i64 r l→K r L h'):Zb prog 81 [v] L h K:=by
 have hx:=hv;obtain⟨a,ca,rfl,hna,hca,h0,_⟩:=hx.open;refine ZS func81 rfl (rs:=[_]) rfl rfl ZY (by kernel_rfl) rfl rfl ?_;refine xx ?_
 cases ha:a.isNone with
 | true =>
  have ha':a=none:=by simpa using ha
  subst ha';have hl0:l.length=0:=by have:=h0 rfl;omega
  have hx':l=[]:=List.eq_nil_of_length_eq_zero hl0;subst hx';refine xx ?_;exact ZP (hk h _ (PH.le_refl h) (Wx h .i64))
 | false =>
  refine xx ?_;refine Z0 fun b1 nb1 zb1=>?_;(try simp only[ZT]at nb1);refine xx ?_;refine Z3 (t:=27) (e:=3) (sz:=1) (bytes:=8) (by kernel_rfl) Gt rfl rfl rfl rfl (by decide) [] L (some (b1,0)) 0 [] ⟨Nat.le_refl _,Nat.zero_le _⟩ rfl (Src.known hx.1) (news:=l.map (Value.int .i64)) (by simp) (UL _ _) (by simp [maxLen];omega) (by omega) ?_;intro o' j1 j2 j3;simp only[Nat.zero_add,List.nil_append]at j1 j2 ⊢;refine xx ?_;exact YR (e:=3) (sz:=1) (n:=l.length) j1 (by simp) (by omega) j2 fun h' le sl=>ZP (hk h' _ le ⟨sl,hx.2⟩)
theorem Gw {l:List Int}(v:Value)(hv:Ints h .i64 v l)(hl:l.length≤1000)(hk:∀o,okO o l.length→apO o L h→K (ovs o l.length) (oent 3 1 o (l.map (.int .i64)) L) h):Zb prog 81 [v] L h K:=by
 have hx:=hv;obtain⟨a,ca,rfl,hna,hca,h0,_⟩:=hx.open;refine ZS func81 rfl (rs:=[_]) rfl rfl ZY (by kernel_rfl) rfl rfl ?_;refine xx ?_
 cases ha:a.isNone with
 | true =>
  have ha':a=none:=by simpa using ha
  subst ha';have hl0:l.length=0:=by have:=h0 rfl;omega
  have hx':l=[]:=List.eq_nil_of_length_eq_zero hl0;subst hx';refine xx ?_;exact ZP (hk none rfl trivial)
 | false =>
  refine xx ?_;refine Z0 fun b1 nb1 zb1=>?_;(try simp only[ZT]at nb1);refine xx ?_;refine Z3 (t:=27) (e:=3) (sz:=1) (bytes:=8) (by kernel_rfl) Gt rfl rfl rfl rfl (by decide) [] L (some (b1,0)) 0 [] ⟨Nat.le_refl _,Nat.zero_le _⟩ rfl (Src.known hx.1) (news:=l.map (Value.int .i64)) (by simp) (UL _ _) (by simp [maxLen];omega) (by omega) ?_;intro o' j1 j2 j3;simp only[Nat.zero_add,List.nil_append]at j1 j2 ⊢;refine xx ?_;exact ZP (hk o' j1 j2)
theorem Zek {l:List Zk}(v:Value)(hv:Zg V1 4 h v l)(hl:l.length≤1000)(hk:∀h' r,PH.le h h'→Zg V1 4 h' r l→K r L h'):Zb prog 82 [v] L h K:=by
 have hx:=hv;obtain⟨a,ca,rfl,hna,hca,h0,_⟩:=hx.open;refine ZS func82 rfl (rs:=[_]) rfl rfl ZY (by kernel_rfl) rfl rfl ?_;refine xx ?_
 cases ha:a.isNone with
 | true =>
  have ha':a=none:=by simpa using ha
  subst ha';have hl0:l.length=0:=by have:=h0 rfl;omega
  have hx':l=[]:=List.eq_nil_of_length_eq_zero hl0;subst hx';refine xx ?_;exact ZP (hk h _ (PH.le_refl h) (Zg.nil V4 h))
 | false =>
  refine xx ?_;refine Z0 fun b1 nb1 zb1=>?_;(try simp only[ZT]at nb1);refine xx ?_;refine Z3 (t:=28) (e:=153) (sz:=4) (bytes:=32) (by kernel_rfl) Zeu rfl rfl rfl rfl (by decide) [] L (some (b1,0)) 0 [] ⟨Nat.le_refl _,Nat.zero_le _⟩ rfl (Src.known hx.s) (news:=l.flatMap V1) (Z1 V4 l) (Jh Ycb l) (by simp [maxLen];omega) (by omega) ?_;intro o' j1 j2 j3;simp only[Nat.zero_add,List.nil_append]at j1 j2 ⊢;refine xx ?_;exact YR (e:=153) (sz:=4) (n:=l.length) j1 (Z1 V4 l) (by omega) j2 fun h' le sl=>ZP (hk h' _ le (Zg.pub hx.len sl))
theorem Gy {l:List Zi}(v:Value)(hv:Zg YA 3 h v l)(hl:l.length≤34000)(hk:∀h' r,PH.le h h'→Zg YA 3 h' r l→K r L h'):Zb prog 83 [v] L h K:=by
 have hx:=hv;obtain⟨a,ca,rfl,hna,hca,h0,_⟩:=hx.open;refine ZS func83 rfl (rs:=[_]) rfl rfl ZY (by kernel_rfl) rfl rfl ?_;refine xx ?_
 cases ha:a.isNone with
 | true =>
  have ha':a=none:=by simpa using ha
  subst ha';have hl0:l.length=0:=by have:=h0 rfl;omega
  have hx':l=[]:=List.eq_nil_of_length_eq_zero hl0;subst hx';refine xx ?_;exact ZP (hk h _ (PH.le_refl h) (Zg.nil Yw h))
 | false =>
  refine xx ?_;refine Z0 fun b1 nb1 zb1=>?_;(try simp only[ZT]at nb1);refine xx ?_;refine Z3 (t:=29) (e:=156) (sz:=3) (bytes:=24) (by kernel_rfl) UO rfl rfl rfl rfl (by decide) [] L (some (b1,0)) 0 [] ⟨Nat.le_refl _,Nat.zero_le _⟩ rfl (Src.known hx.s) (news:=l.flatMap YA) (Z1 Yw l) (Jh Gr l) (by simp [maxLen];omega) (by omega) ?_;intro o' j1 j2 j3;simp only[Nat.zero_add,List.nil_append]at j1 j2 ⊢;refine xx ?_;exact YR (e:=156) (sz:=3) (n:=l.length) j1 (Z1 Yw l) (by omega) j2 fun h' le sl=>ZP (hk h' _ le (Zg.pub hx.len sl))
theorem GN {l:List QM}(v:Value)(hv:Zg Wb 33 h v l)(hm:∀x∈l,Zs h x)(hl:l.length≤1000)(hk:∀o,okO o l.length→apO o L h→K (ovs o l.length) (oent 125 33 o (l.flatMap Wb) L) h):Zb prog 84 [v] L h K:=by
 have hx:=hv;obtain⟨a,ca,rfl,hna,hca,h0,_⟩:=hx.open;refine ZS func84 rfl (rs:=[_]) rfl rfl ZY (by kernel_rfl) rfl rfl ?_;refine xx ?_
 cases ha:a.isNone with
 | true =>
  have ha':a=none:=by simpa using ha
  subst ha';have hl0:l.length=0:=by have:=h0 rfl;omega
  have hx':l=[]:=List.eq_nil_of_length_eq_zero hl0;subst hx';refine xx ?_;exact ZP (hk none rfl trivial)
 | false =>
  refine xx ?_;refine Z0 fun b1 nb1 zb1=>?_;(try simp only[ZT]at nb1);refine xx ?_;refine Z3 (t:=30) (e:=125) (sz:=33) (bytes:=296) (by kernel_rfl) Ygk rfl rfl rfl rfl (by decide) [] L (some (b1,0)) 0 [] ⟨Nat.le_refl _,Nat.zero_le _⟩ rfl (Src.known hx.s) (news:=l.flatMap Wb) (Z1 Ya l) (fun u hu=>by obtain⟨a,hq,hb⟩:=List.mem_flatMap.1 hu;exact Yex (hm a hq) u hb) (by simp [maxLen];omega) (by omega) ?_;intro o' j1 j2 j3;simp only[Nat.zero_add,List.nil_append]at j1 j2 ⊢;refine xx ?_;exact ZP (hk o' j1 j2)
theorem Zex {l:List QS}(v:Value)(hv:Zx h v l)(hl:l.length≤1000)(hk:∀o,okO o l.length→apO o L h→K (ovs o l.length) (oent 31 1 o (vsL l) L) h):Zb prog 86 [v] L h K:=by
 have hx:=hv;obtain⟨a,ca,rfl,hna,hca,h0,_⟩:=hx.open;refine ZS func86 rfl (rs:=[_]) rfl rfl ZY (by kernel_rfl) rfl rfl ?_;refine xx ?_
 cases ha:a.isNone with
 | true =>
  have ha':a=none:=by simpa using ha
  subst ha';have hl0:l.length=0:=by have:=h0 rfl;omega
  have hx':l=[]:=List.eq_nil_of_length_eq_zero hl0;subst hx';refine xx ?_;exact ZP (hk none rfl trivial)
 | false =>
  refine xx ?_;refine Z0 fun b1 nb1 zb1=>?_;(try simp only[ZT]at nb1);refine xx ?_;refine Z3 (t:=32) (e:=31) (sz:=1) (bytes:=24) (by kernel_rfl) Yii rfl rfl rfl rfl (by decide) [] L (some (b1,0)) 0 [] ⟨Nat.le_refl _,Nat.zero_le _⟩ rfl (Src.known hx.s) (news:=vsL l) (by simp [vsL]) (fun u hu=>by obtain⟨q,hq,rfl⟩:=List.mem_map.1 hu;exact Zcr (hv.d q hq)) (by simp [maxLen];omega) (by omega) ?_;intro o' j1 j2 j3;simp only[Nat.zero_add,List.nil_append]at j1 j2 ⊢;refine xx ?_;exact ZP (hk o' j1 j2)
theorem Yky {i j w m m':Nat}(hm:m<w)(hm':m'<w)(hij:i≠j):i*w+m≠j*w+m':=fun e=>by
 rcases Nat.lt_or_gt_of_ne hij with c|c
 ·have:=Nat.mul_le_mul_right w (show i+1≤j from c);rw[Nat.succ_mul]at this;omega
 ·have:=Nat.mul_le_mul_right w (show j+1≤i from c);rw[Nat.succ_mul]at this;omega
theorem WP {i n w m:Nat}(hi:i<n)(hm:m<w):i*w+m<n*w:=by
 have:=Nat.mul_le_mul_right w (show i+1≤n from hi);rw[Nat.succ_mul]at this;omega
theorem Wq {α:Type}{f:α→List Value}{w:Nat}(hf:∀a,(f a).length=w)(z:α)(l:List α){i m:Nat}(hi:i<l.length)(hm:m<w){u:Value}{a':α}(ha:f a'=(f (gr z l i)).set m u):(l.flatMap f).set (i*w+m) u=(l.set i a').flatMap f:=by
 apply List.ext_getElem?;intro n;obtain⟨j,m',rfl,hm'⟩:∃j m',n=j*w+m'∧m'<w:=⟨n/w,n%w,by rw[Nat.mul_comm,Nat.div_add_mod],Nat.mod_lt _ (by omega)⟩
 rw[Uf hf _ j m' hm',List.getElem?_set,Uf hf _ j m' hm',List.getElem?_set];by_cases e:i=j
 ·subst e;have hll:i*w+m<(l.flatMap f).length:=by rw[Z1 hf];exact WP hi hm
  rw[if_pos rfl,if_pos hi];show _=(f a')[m']?;rw[ha,List.getElem?_set,Z7 hi];by_cases e2:m=m'
  ·subst e2;rw[if_pos rfl,if_pos hll,if_pos rfl,if_pos (by rw[hf];exact hm)]
  ·rw[if_neg (by omega),if_neg e2,List.getElem?_eq_getElem hi]
   rfl
 ·rw[if_neg (Yky hm hm' e),if_neg e]
theorem YD {α:Type}{f:α→List Value}{w:Nat}(hf:∀a,(f a).length=w)(z:α)(l:List α){i m:Nat}(hi:i<l.length)(hm:m<w){u:Value}(hu:(f (gr z l i))[m]?=some u)(K:Value→Prop)(t:Zo K):Ub (l.flatMap f) (i*w+m) K t=K u :=
 Znk (by rw[Uf hf l i m hm,List.getElem?_eq_getElem hi,← Z7 (z:=z) hi];exact hu)
theorem Z6 {e sz:Nat}(o:Option (Nat×Nat))(xs:List Value){L L':Own}(hp:L.Perm L'):(oent e sz o xs L).Perm (oent e sz o xs L'):=by
 cases o with
 | none=>exact hp
 | some p=>exact List.Perm.cons _ hp
theorem Zrl {e sz e2 sz2:Nat}{o o2:Option (Nat×Nat)}{xs ys:List Value}{x y:Zp}{L:Own}{h:PH}:Za (oent e sz o xs (oent e2 sz2 o2 ys (x::y::L))) h (oent e sz o xs (oent e2 sz2 o2 ys L)) h:=by
 have p1:(x::y::oent e sz o xs (oent e2 sz2 o2 ys L)).Perm (oent e sz o xs (x::y::oent e2 sz2 o2 ys L)):=Yj [x,y];have p2:=Z6 (e:=e) (sz:=sz) o xs (Yj (e:=e2) (sz:=sz2) (o:=o2) (xs:=ys) [x,y] (L:=L));exact(Za.perm h (p1.trans p2).symm).trans ((Za.tail _ _ _).trans (Za.tail _ _ _))
def Yhm (h:PH)(q:List QS):Prop:=∀p∈q,Ints h .u8 p.1 p.2
def WE (h:PH)(q:List QM):Prop:=∀x∈q,Zs h x
def noMX (s:Ze):Ze:={ s with members:=[],exit:=[] }
structure Zy (s:Ze):Prop where
 p:s.purses.length≤1000
 m:s.members.length≤1000
 e:s.entry.length≤1000
 x:s.exit.length≤1000
 o:s.pool.length≤1000
 d:s.dues.length≤34000
 t:s.motions.length≤1000
 k:s.marks.length≤1000
 r:s.ring.length≤1000
 v:∀m∈s.motions,m.yes.length≤1000∧m.no.length≤1000
 b:∀b∈s.ring,b.length≤1000
abbrev setM (u:SV)(m:Value):SV:=⟨u.p,m,u.e,u.x,u.o,u.d,u.t,u.k,u.r⟩
abbrev Ylr (u:SV)(m x:Value):SV:=⟨u.p,m,u.e,x,u.o,u.d,u.t,u.k,u.r⟩
theorem Zzj {s:Ze}(v:SV)(hs:Zn h v s)(few:Zy s)
    (hk:∀(h':PH) (u:SV) (o ox:Option (Nat×Nat)),PH.le h h'→okO o s.members.length→okO ox s.exit.length→Zn h' (Ylr u (.slice none 0 0) (.slice none 0 0)) (noMX s)→K (stV s (Ylr u (ovs o s.members.length) (ovs ox s.exit.length))) (oent 3 1 ox (s.exit.map (.int .i64)) (oent 100 6 o (s.members.flatMap Ym) L)) h'):Zb prog 21 [stV s v] L h K:=by
  obtain⟨pa,pc,ma,mc,ea,ec,xa,xc,oa,oc,da,dc,ta,tc,ka,kc,ra,rc,rfl⟩:=hs.slices;have fm:=few.m;have fp:=few.p;have fe:=few.e;have fx:=few.x;have fo:=few.o;have fd:=few.d;have ft:=few.t;have fk:=few.k;have fr:=few.r;obtain⟨ql,q1,q2,q3⟩:=hs.t;obtain⟨rl,r1,r2⟩:=hs.r;have q1':Zg Wb 33 h (.slice ta s.motions.length tc) ql:=q1;have r1':Zx h (.slice ra s.ring.length rc) rl:=r1;have hql:ql.length=s.motions.length:=by rw[← q2,List.length_map]
  have hrl:rl.length=s.ring.length:=by rw[← r2];simp [xsL]
  refine ZS func21 rfl (rs:=[_]) rfl rfl ZY (by kernel_rfl) rfl rfl ?_;refine xx ?_;refine Z0 fun b1 nb1 zb1=>?_;(try simp only[ZT]at nb1);refine xx ?_;refine Z0 fun b2 nb2 zb2=>?_;(try simp only[ZT]at nb2);refine xx ?_;refine Zb.ap (JS _ hs.p (by omega) fun h1 v1 le1 i1 ap=>?_);simp only[Ap]at ap;obtain⟨a12,a11,_⟩:=ap;obtain⟨pa1,pc1,rfl,_⟩:=i1.open;refine xx ?_;refine Zdy _ (hs.m.up le1) (by omega) fun om ok1 am1=>?_;have m2:apB om b2:=am1.head;have m1:apB om b1:=(ZZ am1).head;simp -dsimp -implicitDefEqProofs (disch:=first|with_reducible assumption|omega) [go_sem,ZU m1,ZQ m1];refine Yi (.tk 0 (.tk 3 (.tkl 1 (.tkl 4 (.o1 2 (.tk 6 (.o1 5 (.o2 7 (.tk 8 (.o2 9 (.fin) (.nil))) (.nil)) (.nil))) (.nil)))))) (by kernel_rfl) (by kernel_rfl) _ (Za.refl _ _) ?_;simp -dsimp -implicitDefEqProofs (disch:=first|with_reducible assumption|omega) [go_sem,ZU m1,ZQ m1];refine Zb.ap (Zqr _ (hs.e.up le1) (by omega) fun h2 v2 le2 i2 ap=>?_);obtain⟨a22,a21,_⟩:=Ap.oent ap;obtain⟨ea1,ec1,rfl,_⟩:=i2.open;refine xkp (Za.forget le2) ?_;simp -dsimp -implicitDefEqProofs (disch:=first|with_reducible assumption|omega) [go_sem,ZU m1,ZQ m1];refine Gw _ (hs.x.up (le1.trans le2)) (by omega) fun ox okx amx=>?_;have amx0:=YU amx;have x2:apB ox b2:=amx0.head;have x1:apB ox b1:=(ZZ amx0).head;obtain⟨xa1,xc1,exx,_⟩:=Yd okx;rw[exx]
  first
  | refine xkp ((Za.oent _ _ _ _ _ _).trans (Za.forget le2)) ?_
  | refine xkp (Za.oent _ _ _ _ _ _) ?_
  | skip
  simp -dsimp -implicitDefEqProofs (disch:=first|with_reducible assumption|omega) [go_sem,ZU x1,ZQ x1,ZU m1,ZQ m1];refine Yi (.tk 0 (.tk 3 (.tkl 1 (.tkl 4 (.o1 2 (.tk 6 (.o1 5 (.o2 7 (.tk 8 (.o2 9 (.fin) (.nil))) (.nil)) (.nil))) (.nil)))))) (by kernel_rfl) (by kernel_rfl) _ (Za.refl _ _) ?_;simp -dsimp -implicitDefEqProofs (disch:=first|with_reducible assumption|omega) [go_sem,ZU x1,ZQ x1,ZU m1,ZQ m1];have le13:=le1.trans le2;refine Zb.ap (Zek _ (hs.o.up le13) (by omega) fun h4 v4 le4 i4 ap=>?_);obtain⟨a42,a41,_⟩:=Ap.oent (Ap.oent ap);obtain⟨oa1,oc1,rfl,_⟩:=i4.open;refine xkp (Za.forget le4) ?_;simp -dsimp -implicitDefEqProofs (disch:=first|with_reducible assumption|omega) [go_sem,ZU x1,ZQ x1,ZU m1,ZQ m1];have le14:=le13.trans le4;refine Zb.ap (Gy _ (hs.d.up le14) (by omega) fun h5 v5 le5 i5 ap=>?_);obtain⟨a52,a51,_⟩:=Ap.oent (Ap.oent ap);obtain⟨da1,dc1,rfl,_⟩:=i5.open
  first
  | refine xkp (Za.forget (le4.trans le5)) ?_
  | skip
  simp -dsimp -implicitDefEqProofs (disch:=first|with_reducible assumption|omega) [go_sem,ZU x1,ZQ x1,ZU m1,ZQ m1];have le15:=le14.trans le5;refine GN _ (q1'.up le15) (fun x hx=>(q3 x hx).up le15) (by omega) fun ot ok2 at0'=>?_;rw[hql]at ok2 ⊢;have at1:=YU (YU at0');have t2:apB ot b2:=at1.head;have t1:apB ot b1:=(ZZ at1).head
  replace at1:=ZZ (ZZ at1)
  simp -dsimp -implicitDefEqProofs (disch:=first|with_reducible assumption|omega) [go_sem,ZU t1,ZQ t1,ZU x1,ZQ x1,ZU m1,ZQ m1];obtain⟨mta,mtc,emt,_⟩:=Yd ok2;rw[emt];refine xx ?_;obtain⟨vv,hvv⟩:∃vv:SV,vv=⟨.slice pa1 s.purses.length pc1,ovs om s.members.length,.slice ea1 s.entry.length ec1,.slice xa1 s.exit.length xc1,.slice oa1 s.pool.length oc1,.slice da1 s.dues.length dc1,.slice mta s.motions.length mtc,.slice ka s.marks.length kc,.slice ra s.ring.length rc⟩:=⟨_,rfl⟩
  refine Yq (γ:=Nat×List QM×PH) (0,ql,h5)
    (fun q=>q.1≤s.motions.length∧q.2.1.map (fun x=>x.2.2)=s.motions∧WE q.2.2 q.2.1∧PH.le h5 q.2.2∧q.2.2 b2=noC∧q.2.2 b1=noC∧apO ot L q.2.2)
    (fun q=>[(36,.int .i64 q.1),(35,.int .i64 s.motions.length),(1,.pointer (some ⟨b1,0,none⟩)),(2,.pointer (some ⟨b2,0,none⟩))])
    (fun q=>oent 125 33 ot (q.2.1.flatMap Wb) (oent 3 1 ox (s.exit.map (.int .i64)) (oent 100 6 om (s.members.flatMap Ym) (⟨b2,34,stC JH Zqt,41⟩::⟨b1,34,stC s vv,41⟩::L)))) (fun q=>q.2.2) (fun q=>s.motions.length-q.1) ?_ ?_ ?_ ?_
  · exact⟨Nat.zero_le _,q2,fun x hx=>(q3 x hx).up le15,PH.le_refl _,a52,a51,at1⟩
  · simp [Ent,List.lookup,Y5]
  · subst hvv;exact Za.refl _ _
  rintro⟨k,ql',h6⟩ ⟨k1,k2,k3,k4,k5,k6,k8⟩;simp only at k1 k2 k3 k4 k5 k6 k8 ⊢;have hql':ql'.length=s.motions.length:=by rw[← k2,List.length_map]
  subst hvv;by_cases c1:k<s.motions.length
  · obtain ⟨bt,cap,rfl⟩ : ∃ bt cap,ot = some (bt,cap) := by
      cases ot with
      | none=>have:s.motions.length=0:=ok2;omega
      | some p=>exact⟨_,_,rfl⟩
    simp only[ovs,Value.slice.injEq]at emt;obtain⟨rfl,_,rfl⟩:=emt;have hbt:h6 bt=noC:=k8.2;have n21:bt≠b2:=t2;have n11:bt≠b1:=t1;obtain⟨qk,hqk⟩:∃qk,qk=gr Z2 ql' k:=⟨_,rfl⟩
    have hmem:qk∈ql':=by rw[hqk,Z7 (by omega)];exact List.getElem_mem _
    have hmk:Zs h6 qk:=k3 qk hmem;have hmdm:qk.2.2∈s.motions:=by rw[← k2];exact List.mem_map.2 ⟨qk,hmem,rfl⟩
    obtain⟨vy,vn,md⟩:=qk;have hy:=hmk.y;have hn:=hmk.n;simp only at hy hn;obtain⟨ya,yc,rfl,_⟩:=hy.open;obtain⟨na,nc,rfl,_⟩:=hn.open;simp only at hmdm;have fv:=few.v md hmdm;have g31:∀(K:Value→Prop) (t:Zo K),Ub (ql'.flatMap Wb) (k*33+31) K t=K (.slice ya md.yes.length yc):=fun K t=>YD Ya Z2 ql' (by omega) (by decide) (by rw[← hqk];rfl) K t;have g32:∀(K:Value→Prop) (t:Zo K),Ub (ql'.flatMap Wb) (k*33+32) K t=K (.slice na md.no.length nc):=fun K t=>YD Ya Z2 ql' (by omega) (by decide) (by rw[← hqk];rfl) K t;have hfl:(ql'.flatMap Wb).length=s.motions.length*33:=by rw[Z1 Ya,hql']
    rw[Ye];simp -dsimp -implicitDefEqProofs (disch:=first|with_reducible assumption|omega) [go_sem,ZU x1,ZQ x1,ZU m1,ZQ m1];refine Yi (.tk 0 (.tk 2 (.tk 3 (.tk 5 (.tk 6 (.tk 8 (.tk 13 (.tk 15 (.tkl 1 (.tkl 7 (.tk 9 (.tk 10 (.tkl 11 (.o1 4 (.o1 12 (.o1 14 (.tk 16 (.tk 17 (.tkl 18 (.o1 19 (.tk 20 (.tk 21 (.o2 22 (.tk 23 (.tk 24 (.o2 25 (.fin) (.nil)))) (.nil)))) (.nil))))) (.nil)) (.o1 14 (.tk 16 (.tk 17 (.tkl 18 (.o1 12 (.o1 19 (.tk 20 (.tk 21 (.o2 22 (.tk 23 (.tk 24 (.o2 25 (.fin) (.nil)))) (.nil)))) (.nil)) (.nil))))) (.nil))) (.o1 12 (.o1 4 (.o1 14 (.tk 16 (.tk 17 (.tkl 18 (.o1 19 (.tk 20 (.tk 21 (.o2 22 (.tk 23 (.tk 24 (.o2 25 (.fin) (.nil)))) (.nil)))) (.nil))))) (.nil)) (.o1 14 (.tk 16 (.tk 17 (.tkl 18 (.o1 4 (.o1 19 (.tk 20 (.tk 21 (.o2 22 (.tk 23 (.tk 24 (.o2 25 (.fin) (.nil)))) (.nil)))) (.nil)) (.o1 19 (.tk 20 (.tk 21 (.o1 4 (.o2 22 (.tk 23 (.tk 24 (.o2 25 (.fin) (.nil)))) (.nil)) (.o2 22 (.o1 4 (.tk 23 (.tk 24 (.o2 25 (.fin) (.nil)))) (.nil)) (.nil))))) (.nil)))))) (.nil))) (.o1 14 (.tk 16 (.tk 17 (.tkl 18 (.o1 4 (.o1 12 (.o1 19 (.tk 20 (.tk 21 (.o2 22 (.tk 23 (.tk 24 (.o2 25 (.fin) (.nil)))) (.nil)))) (.nil)) (.nil)) (.o1 12 (.o1 4 (.o1 19 (.tk 20 (.tk 21 (.o2 22 (.tk 23 (.tk 24 (.o2 25 (.fin) (.nil)))) (.nil)))) (.nil)) (.o1 19 (.tk 20 (.tk 21 (.o1 4 (.o2 22 (.tk 23 (.tk 24 (.o2 25 (.fin) (.nil)))) (.nil)) (.o2 22 (.o1 4 (.tk 23 (.tk 24 (.o2 25 (.fin) (.nil)))) (.nil)) (.nil))))) (.nil))) (.nil)))))) (.nil))))))))))))))))) (by kernel_rfl) (by kernel_rfl) _ (Za.refl _ _) ?_;simp -dsimp -implicitDefEqProofs (disch:=first|with_reducible assumption|omega) [go_sem,ZU x1,ZQ x1,ZU m1,ZQ m1,g31,g32]
    have hset:∀a ac b bc,((ql'.flatMap Wb).set (k*33+31) (.slice a md.yes.length ac)).set (k*33+32) (.slice b md.no.length bc)=(ql'.set k (.slice a md.yes.length ac,.slice b md.no.length bc,md)).flatMap Wb:=fun a ac b bc=>by
      rw[Wq Ya Z2 ql' (i:=k) (m:=31) (a':=(.slice a md.yes.length ac,.slice na md.no.length nc,md)) (by omega) (by decide) (by rw[← hqk];rfl)];rw[Wq Ya Z2 _ (i:=k) (m:=32) (a':=(.slice a md.yes.length ac,.slice b md.no.length bc,md)) (by rw[List.length_set];omega) (by decide) (by rw[Z7 (by rw[List.length_set];omega),List.getElem_set_self];rfl),List.set_set]
    have hmd:s.motions[k]?=some md:=by
      rw[← k2,List.getElem?_map,List.getElem?_eq_getElem (by omega),← Z7 (z:=Z2) (by omega),← hqk]
      rfl
    have hmap:∀(a b:Value),(ql'.set k (a,b,md)).map (fun x=>x.2.2)=s.motions:=fun a b=>by
      rw[List.map_set,k2];apply List.ext_getElem?;intro n;rw[List.getElem?_set];split
      · rename_i e;subst e
        first
        | exact hmd.symm
        | (split
           · exact hmd.symm
           · rw[List.getElem?_eq_none (by omega)])
      · rfl
    repeat' first
      | refine YP ?_ ?_
      | simp -dsimp -implicitDefEqProofs (disch:=first|with_reducible assumption|omega) [go_sem,ZU x1,ZQ x1,ZU m1,ZQ m1,g31,g32]
    all_goals
      refine Zb.ap (Ws _ hy (by omega) fun h7 v7 le7 i7 ap=>?_);obtain⟨y1,y2⟩:=ap;obtain⟨y3,y4,_⟩:=Ap.oent (Ap.oent y2);obtain⟨wa,wc,rfl,_⟩:=i7.open
      first
      | refine xkp (Za.forget le7) ?_
      | skip
    repeat' first
      | refine YP ?_ ?_
      | simp -dsimp -implicitDefEqProofs (disch:=first|with_reducible assumption|omega) [go_sem,ZU x1,ZQ x1,ZU m1,ZQ m1,g31,g32]
      | refine xkp (Za.forget le7) ?_
    all_goals
      refine Zb.ap (Ws _ (hn.up le7) (by omega) fun h8 v8 le8 i8 ap=>?_);obtain⟨z1,z2⟩:=ap;obtain⟨z3,z4,_⟩:=Ap.oent (Ap.oent z2);obtain⟨ua,uc,rfl,_⟩:=i8.open
      first
      | refine xkp (Za.forget (le7.trans le8)) ?_
      | skip
    repeat' first
      | refine YP ?_ ?_
      | simp -dsimp -implicitDefEqProofs (disch:=first|with_reducible assumption|omega) [go_sem,ZU x1,ZQ x1,ZU m1,ZQ m1,g31,g32]
      | refine xkp (Za.forget (le7.trans le8)) ?_
    all_goals
      have hsum:(ql'.map fun a=>(Wb a).length).sum=s.motions.length*33:=by rw[← List.length_flatMap,hfl]
      have hk33:=WP (n:=s.motions.length) (w:=33) c1 (m:=32) (by decide);refine⟨by omega,by omega,k+1,ql'.set k (.slice wa md.yes.length wc,.slice ua md.no.length uc,md),h8,⟨by omega,hmap _ _,fun x hx=>?_,k4.trans (le7.trans le8),z3,z4,⟨k8.1,z1⟩⟩,by omega,by simp [Ent,List.lookup],?_⟩
      · rcases List.mem_or_eq_of_mem_set hx with hx|rfl
        · exact(k3 x hx).up (le7.trans le8)
        · exact⟨i7.up le8,i8,hmk.ok⟩
      · rw[hset];exact Za.refl _ _
  have hkl:k=s.motions.length:=by omega
  subst hkl;simp -dsimp -implicitDefEqProofs (disch:=first|with_reducible assumption|omega) [go_sem,ZU t1,ZQ t1,ZU x1,ZQ x1,ZU m1,ZQ m1];refine W8 (e:=125) (sz:=33) (n:=s.motions.length) ok2 (by rw[Z1 Ya,hql']) (by omega) k8 fun h7 le7 sl7=>?_;have le17:PH.le h h7:=(le15.trans k4).trans le7;have kq2:=k2;have kq4:=k4;refine Zb.ap (Ws _ (hs.k.up le17) (by omega) fun h8 v8 le8 i8 ap=>?_);obtain⟨a82,a81,_⟩:=Ap.oent (Ap.oent ap);obtain⟨ka1,kc1,rfl,_⟩:=i8.open;have rmot:Zg Wb 33 h8 (.slice mta s.motions.length mtc) ql':=by
    have:=Zg.pub (f:=Wb) (w:=33) (l:=ql') (o:=ot) Ya (by rw[hql'];exact sl7);rw[hql',emt]at this;exact this.up le8
  have imot:WE h8 ql':=fun x hx=>(k3 x hx).up (le7.trans le8);have le18:=le17.trans le8;simp -dsimp -implicitDefEqProofs (disch:=first|with_reducible assumption|omega) [go_sem,ZU x1,ZQ x1,ZU m1,ZQ m1];refine Zex _ (r1'.up le18) (by omega) fun orr ok3 ar=>?_;rw[hrl]at ok3 ⊢;have ar1:=YU (YU ar);have rb2:apB orr b2:=ar1.head;have rb1:apB orr b1:=(ZZ ar1).head
  replace ar1:=ZZ (ZZ ar1)
  simp -dsimp -implicitDefEqProofs (disch:=first|with_reducible assumption|omega) [go_sem,ZU rb1,ZQ rb1,ZU x1,ZQ x1,ZU m1,ZQ m1];obtain⟨rta,rtc,ert,_⟩:=Yd ok3;rw[ert];refine xx ?_;refine Yq (γ:=Nat×List QS×PH) (0,rl,h8)
    (fun q=>q.1≤s.ring.length∧xsL q.2.1=s.ring∧Yhm q.2.2 q.2.1∧PH.le h8 q.2.2∧q.2.2 b2=noC∧q.2.2 b1=noC∧apO orr L q.2.2)
    (fun q=>[(75,.int .i64 q.1),(74,.int .i64 s.ring.length),(1,.pointer (some ⟨b1,0,none⟩)),(2,.pointer (some ⟨b2,0,none⟩))])
    (fun q=>oent 31 1 orr (vsL q.2.1) (oent 3 1 ox (s.exit.map (.int .i64)) (oent 100 6 om (s.members.flatMap Ym) (⟨b2,34,stC JH Zqt,41⟩::⟨b1,34,stC s ⟨.slice pa1 s.purses.length pc1,ovs om s.members.length,.slice ea1 s.entry.length ec1,.slice xa1 s.exit.length xc1,.slice oa1 s.pool.length oc1,.slice da1 s.dues.length dc1,.slice mta s.motions.length mtc,.slice ka1 s.marks.length kc1,.slice rta s.ring.length rtc⟩,41⟩::L)))) (fun q=>q.2.2) (fun q=>s.ring.length-q.1) ?_ ?_ ?_ ?_
  · exact⟨Nat.zero_le _,r2,fun x hx=>(r1'.d x hx).up le18,PH.le_refl _,a82,a81,ar1⟩
  · simp [Ent,List.lookup,Y5]
  · exact Za.refl _ _
  rintro⟨k,rl',h9⟩ ⟨k1,k2,k3,k4,k5,k6,k8⟩;simp only at k1 k2 k3 k4 k5 k6 k8 ⊢;have hrl':rl'.length=s.ring.length:=by rw[← k2];simp [xsL]
  by_cases c2:k<s.ring.length
  · obtain ⟨bt,cap,rfl⟩ : ∃ bt cap,orr = some (bt,cap) := by
      cases orr with
      | none=>have:s.ring.length=0:=ok3;omega
      | some p=>exact⟨_,_,rfl⟩
    simp only[ovs,Value.slice.injEq]at ert;obtain⟨rfl,_,rfl⟩:=ert;have hbt:h9 bt=noC:=k8.2;have n21:bt≠b2:=rb2;have n11:bt≠b1:=rb1;obtain⟨qk,hqk⟩:∃qk,qk=gs rl' k:=⟨_,rfl⟩
    have hmem:qk∈rl':=by rw[hqk,GQ (by omega)];exact List.getElem_mem _
    have hy:=k3 qk hmem;have hbm:qk.2∈s.ring:=by rw[← k2];exact List.mem_map.2 ⟨qk,hmem,rfl⟩
    have fv:=few.b _ hbm;obtain⟨vy,by'⟩:=qk;simp only at hy hbm fv;obtain⟨ya,yc,rfl,_⟩:=hy.open;have g1:∀(K:Value→Prop) (t:Zo K),Ub (vsL rl') k K t=K (.slice ya by'.length yc):=fun K t=>Znk (by rw[vsL,List.getElem?_map,List.getElem?_eq_getElem (by omega),← GQ (by omega),← hqk];rfl);have hfl:(vsL rl').length=s.ring.length:=by simp [vsL,hrl']
    rw[Ye];simp -dsimp -implicitDefEqProofs (disch:=first|with_reducible assumption|omega) [go_sem,ZU x1,ZQ x1,ZU m1,ZQ m1];refine Yi (.tk 0 (.tk 2 (.tk 3 (.tk 5 (.tkl 1 (.tkl 4 (.tk 6 (.tkl 7 (.o1 8 (.tk 9 (.o2 10 (.fin) (.nil))) (.nil)))))))))) (by kernel_rfl) (by kernel_rfl) _ (Za.refl _ _) ?_;simp -dsimp -implicitDefEqProofs (disch:=first|with_reducible assumption|omega) [go_sem,ZU x1,ZQ x1,ZU m1,ZQ m1,g1]
    repeat' first
      | refine YP ?_ ?_
      | simp -dsimp -implicitDefEqProofs (disch:=first|with_reducible assumption|omega) [go_sem,ZU x1,ZQ x1,ZU m1,ZQ m1,g1]
    all_goals
      refine Zb.ap (Ws _ hy (by omega) fun h10 v10 le10 i10 ap=>?_);obtain⟨y1,y2⟩:=ap;obtain⟨y3,y4,_⟩:=Ap.oent (Ap.oent y2);obtain⟨wa,wc,rfl,_⟩:=i10.open
      first
      | refine xkp (Za.forget le10) ?_
      | skip
    repeat' first
      | refine YP ?_ ?_
      | simp -dsimp -implicitDefEqProofs (disch:=first|with_reducible assumption|omega) [go_sem,ZU x1,ZQ x1,ZU m1,ZQ m1,g1]
      | refine xkp (Za.forget le10) ?_
    all_goals
      refine⟨by rw[hfl];exact c2,k+1,rl'.set k (.slice wa by'.length wc,by'),h10,⟨by omega,?_,fun x hx=>?_,k4.trans le10,y3,y4,⟨k8.1,y1⟩⟩,by omega,by simp [Ent,List.lookup],?_⟩
      · rw[← k2,xsL,xsL,List.map_set];apply List.ext_getElem?;intro n;rw[List.getElem?_set];split
        · rename_i e;subst e;have:(rl'.map (fun x:QS=>x.2))[k]?=some by':=by
            rw[List.getElem?_map,List.getElem?_eq_getElem (by omega),← GQ (by omega),← hqk];rfl
          first
          | exact this.symm
          | (split
             · exact this.symm
             · rename_i hh;exfalso;apply hh;simp;omega)
        · rfl
      · rcases List.mem_or_eq_of_mem_set hx with hx|rfl
        · exact(k3 x hx).up le10
        · exact i10
      · rw[vsL,vsL,List.map_set,Ye,Nat.mul_one];exact Za.refl _ _
  have hkl:k=s.ring.length:=by omega
  subst hkl;simp -dsimp -implicitDefEqProofs (disch:=first|with_reducible assumption|omega) [go_sem,ZU rb1,ZQ rb1,ZU rb2,ZQ rb2,ZU x1,ZQ x1,ZU m1,ZQ m1,ZU x2,ZQ x2,ZU m2,ZQ m2];have le10:=Y8 (h:=h9) k8 (vsL rl');have sl10:=Vw (h:=h9) (sz:=1) (n:=s.ring.length) (o:=orr) (xs:=vsL rl') ok3 (by simp [vsL,hrl']) (by omega);have le8':PH.le h8 (JD h9 orr (vsL rl')):=k4.trans le10;have hst:Zx (JD h9 orr (vsL rl')) (.slice rta s.ring.length rtc) rl':=by
    rw[← ert];rw[← hrl']at sl10 ⊢;exact Zpf sl10 fun p hp=>(k3 p hp).up le10
  have le5':=kq4.trans (le7.trans (le8.trans le8'));have le4':=le5.trans le5';have le2':=le4.trans le4';have hS:Zn (JD h9 orr (vsL rl')) (Ylr ⟨.slice pa1 s.purses.length pc1,.slice none 0 0,.slice ea1 s.entry.length ec1,.slice xa1 s.exit.length xc1,.slice oa1 s.pool.length oc1,.slice da1 s.dues.length dc1,.slice mta s.motions.length mtc,.slice ka1 s.marks.length kc1,.slice rta s.ring.length rtc⟩ (.slice none 0 0) (.slice none 0 0)) (noMX s) :=
    { ok:=⟨hs.ok.p,hs.ok.u,hs.ok.n⟩,p:=i1.up (le2.trans le2'),m:=Zg.nil Yc _,mo:=(fun x hx=>by cases hx),e:=i2.up le2',x:=Wx _ .i64,o:=i4.up le4',oo:=hs.oo,d:=i5.up le5',dd:=hs.dd,t:=⟨ql',rmot.up le8',kq2,fun x hx=>(imot x hx).up le8'⟩,k:=i8.up le8',r:=⟨rl',hst,k2⟩ }
  exact⟨_,_,(YZ orr (vsL rl') _ h9 (by decide)).trans Zrl,by rw[← exx];exact hk _ ⟨.slice pa1 s.purses.length pc1,.slice none 0 0,.slice ea1 s.entry.length ec1,.slice none 0 0,.slice oa1 s.pool.length oc1,.slice da1 s.dues.length dc1,.slice mta s.motions.length mtc,.slice ka1 s.marks.length kc1,.slice rta s.ring.length rtc⟩ om ox (le18.trans le8') ok1 okx hS⟩
theorem Zug {xs:List Int}(v:Value)(hx:Ints h .u64 v xs)(i:Nat)(hi:i<xs.length)(hk:K (.bool true) L h):Zb prog 369 [v,.int .i64 i] L h K:=by
 obtain⟨a,c,rfl,_,hl,_⟩:=hx.open;refine ZS func369 rfl (rs:=[_]) rfl rfl ZY (by kernel_rfl) rfl rfl ?_;refine xx ?_;exact ZP hk
theorem Ylw {xs:List Int}(v:Value)(hx:Ints h .u64 v xs)(i:Nat)(hi:i<xs.length)(hk:K (.tuple #[.int .u64 (at0 xs i),.int .i64 0]) L h):Zb prog 354 [v,.int .i64 i] L h K:=by
 have hx0:=hx;obtain⟨a,c,rfl,_,hl,_,hcs⟩:=hx.open;refine ZS func354 rfl (rs:=[_,_]) rfl rfl ZY (by kernel_rfl) rfl rfl ?_;refine xx ?_;refine Zug _ hx0 i hi ?_;simp -dsimp -implicitDefEqProofs (disch:=first|with_reducible assumption|omega) [go_sem,idx hcs];exact ZP hk
theorem Yac {xs:List Int}(v:Value)(hx:Ints h .u64 v xs)(hl:xs.length≤1000)(i:Nat)(hi:i<xs.length)(n:Int)(hn:0≤n∧n≤18446744073709551615)(hk:∀h' r,PH.le h h'→Ints h' .u64 r (xs.set i n)→K r L h'):Zb prog 355 [v,.int .i64 i,.int .u64 n] L h K:=by
 have hx0:=hx;have hxw:=hx.word;obtain⟨a,c,rfl,_,hl2,_,hcs⟩:=hx.open;refine ZS func355 rfl (rs:=[_]) rfl rfl ZY (by kernel_rfl) rfl rfl ?_;refine xx ?_;refine Zar (e:=22) (z:=.int .u64 0) (by kernel_rfl) VZ rfl rfl .i64 .i64 _ (by omega) (by simp;omega) (by omega) ?_;simp only[Int.toNat_natCast];refine Z0 fun b1 nb1 zb1=>?_;(try simp only[ZT]at nb1);refine xx ?_;refine Ylm (e:=22) (sz:=1) (by kernel_rfl) VZ rfl (Src.known hx0.1) (by simp) (Nat.le_refl _) ?_;have hw:wr (List.replicate xs.length (Value.int .u64 0)) 0 (xs.map (Value.int .u64))=xs.map (Value.int .u64):=by
  rw[Gj _ _ _ (by simp)];simp
 simp -dsimp -implicitDefEqProofs (disch:=first|with_reducible assumption|omega) [go_sem,hw,VO];refine⟨by omega,?_⟩;rw[← List.map_set]
 have:=YR (K:=K) (L:=L) (v:=.slice (some ⟨b1,0,none⟩) xs.length xs.length) (e:=22) (sz:=1) (o:=some (b1,xs.length)) (n:=xs.length) (xs:=(xs.set i n).map (.int .u64)) (h:=h) (L0:=L) ⟨Nat.le_refl _,by simp [maxLen];omega⟩ (by simp) (by omega) ⟨nb1,zb1⟩ fun h' le sl=>ZP (hk h' _ le ⟨by rw[List.length_set];exact sl,fun z hz=>by
  rw[show IntKind.u64.min=0 by decide,show IntKind.u64.max=18446744073709551615 by decide];rcases List.mem_or_eq_of_mem_set hz with hz|rfl
  ·have:=hx0.2 z hz
   rwa [show IntKind.u64.min=0 by decide,show IntKind.u64.max=18446744073709551615 by decide]at this
  ·exact hn⟩)
 simpa only[oent,Nat.mul_one] using this
theorem Yip {xs:List Int}(v:Value)(hx:Ints h .u64 v xs)(hl:xs.length≤1000)(i:Nat)(hi:i<xs.length)(n:Int)(hn:0≤n)(hs:at0 xs i+n≤4611686018427387904)(hk:∀h' r,PH.le h h'→Ints h' .u64 r (xs.set i (at0 xs i+n))→K (.tuple #[r,.int .i64 0]) L h'):Zb prog 303 [v,.int .i64 i,.int .u64 n] L h K:=by
 have hx0:=hx;have hw:=hx.word i;obtain⟨a,c,rfl,_,hl2,_⟩:=hx.open;refine ZS func303 rfl (rs:=[_,_]) rfl rfl ZY (by kernel_rfl) rfl rfl ?_;refine xx ?_;refine Ylw _ hx0 i hi ?_;refine xx ?_;refine WM (at0 xs i) n hw (by omega) ?_;rw[YK (by omega)];refine xx ?_;refine Yac _ hx0 hl i hi _ (by omega) fun h1 r le i1=>?_;obtain⟨ra,rc,rfl,_⟩:=i1.open;have h2:=hk h1 _ le i1;rw[List.length_set]at h2;refine xx ?_;exact ZP h2
theorem Zsj (p:Zd)(ok:Zj p)(hr:Yl p=true)(b:Int)(hb:0≤b∧b≤18446744073709551615)(hk:K (.tuple #[.int .u64 (min b p.cap),.int .u64 (b-min b p.cap)]) L h):Zb prog 212 [Vp p,.int .u64 b] L h K:=by
 have hc:=ok.w p.cap (by simp [Yy]);refine ZS func212 rfl (rs:=[_,_]) rfl rfl ZY (by kernel_rfl) rfl rfl ?_;refine xx ?_;refine Z0 fun b1 nb1 zb1=>?_;(try simp only[ZT]at nb1);refine xx ?_;refine Jl p ok ?_;rw[hr];refine xx ?_;refine Z0 fun b2 nb2 zb2=>?_;(try simp only[ZT]at nb2);refine xx ?_;have take:∀ {K':PK} {L':Own},K' (.tuple #[.int .u64 (min b p.cap),.int .u64 (b-min b p.cap)]) L' h→Zb prog 301 [.int .u64 b,.int .u64 p.cap] L' h K':=fun {K' L'} hK=>by
  refine ZS func301 rfl (rs:=[_,_]) rfl rfl ZY (by kernel_rfl) rfl rfl ?_;refine xx ?_;exact ZP hK
 refine take ?_;refine xx ?_;exact ZO (ZO (ZP hk))
theorem Yad (p:Zd)(ok:Zj p)(hr:Yl p=true)(e b:Int)(he:0≤e∧e≤18446744073709551615)(hb:0≤b∧b≤18446744073709551615)(hk:K (.int .u64 (GR p e b)) L h):Zb prog 155 [Vp p,.int .u64 e,.int .u64 b] L h K:=by
 refine ZS func155 rfl (rs:=[_]) rfl rfl ZY (by kernel_rfl) rfl rfl ?_;refine xx ?_;refine Z0 fun b1 nb1 zb1=>?_;(try simp only[ZT]at nb1);refine xx ?_;refine Jl p ok ?_;rw[hr];refine xx ?_;refine Z0 fun b2 nb2 zb2=>?_;(try simp only[ZT]at nb2);refine xx ?_;refine Znr p ok (U7 hr) e b he hb ?_;refine xx ?_;exact ZO (ZO (ZP hk))
theorem Yra {l:List Zc}{k:Nat}(hk:k<l.length){i:Nat}(hi:i<6){u:Value}{a a':Zc}(ha:Ym a'=(Ym a).set i u):((l.set k a).flatMap Ym).set (k*6+i) u=(l.set k a').flatMap Ym:=by
 rw[Wq Yc ZR (l.set k a) (by rw[List.length_set];exact hk) hi (a':=a') (by rw[Z7 (by rw[List.length_set];exact hk),List.getElem_set_self];exact ha),List.set_set]
theorem fset4 {l:List Zc}{k:Nat}(hk:k<l.length)(a b:Zc)(ho:b.owner=a.owner)(hs:b.status=a.status) :
  (((((l.set k a).flatMap Ym).set (k*6) (.int .u64 b.bal)).set (k*6+1) (.int .u64 b.eff)).set (k*6+2) (.int .u64 b.score)).set (k*6+3) (.int .i64 b.streak)=(l.set k b).flatMap Ym:=by
 have h0:((l.set k a).flatMap Ym).set (k*6) (.int .u64 b.bal)=(l.set k { a with bal:=b.bal }).flatMap Ym:=Yra hk (i:=0) (by decide) rfl;have h1:((l.set k { a with bal:=b.bal }).flatMap Ym).set (k*6+1) (.int .u64 b.eff)=(l.set k { a with bal:=b.bal,eff:=b.eff }).flatMap Ym:=Yra hk (by decide) rfl;have h2:((l.set k { a with bal:=b.bal,eff:=b.eff }).flatMap Ym).set (k*6+2) (.int .u64 b.score)=(l.set k { a with bal:=b.bal,eff:=b.eff,score:=b.score }).flatMap Ym:=Yra hk (by decide) rfl;have h3:((l.set k { a with bal:=b.bal,eff:=b.eff,score:=b.score }).flatMap Ym).set (k*6+3) (.int .i64 b.streak)=(l.set k { a with bal:=b.bal,eff:=b.eff,score:=b.score,streak:=b.streak }).flatMap Ym:=Yra hk (by decide) rfl;rw[h0,h1,h2,h3];have:({ a with bal:=b.bal,eff:=b.eff,score:=b.score,streak:=b.streak }:Zc)=b:=by
  cases a;cases b;simp only at ho hs;subst ho;subst hs;rfl
 rw[this]
def Ue (q:Zd)(m:Zc):Zc:=Gh q { m with bal:=min m.bal q.cap }
def WC (q:Zd)(m:Zc):Zc:={ m with eff:=if Vh q (GR q m.eff m.bal) m.bal then GR q m.eff m.bal else Wo q m.bal }
end Go.X
