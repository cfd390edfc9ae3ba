/- Lemmas and contracts. Conditions: as each says. -/
import Derived.Test.YtllhopbilpdpkaaGreatQ20
set_option linter.unusedVariables false
set_option linter.unusedSimpArgs false
set_option maxHeartbeats 12800000
set_option maxRecDepth 20000
namespace Go.X
open Go.RowKit Go.Proofs Go.Bl Go.Proofs.Tryz
variable {L:Own} {h:PH} {K:PK}
theorem U2 {α:Type}{f:α→List Value}(h1:∀a,∀u∈f a,u.oneCell'=true)(l:List α):∀u∈l.flatMap f,u.oneCell'=true:=fun u hu=>by
 obtain⟨a,_,hb⟩:=List.mem_flatMap.1 hu;exact h1 a u hb
theorem Zqh (m:Zc):∀u∈Ym m,u.oneCell'=true:=fun u hu=>by
 simp only[Ym,List.mem_cons,List.not_mem_nil,or_false]at hu;rcases hu with rfl|rfl|rfl|rfl|rfl|rfl<;>rfl
theorem Ydq (m:Zk):∀u∈Ua m,u.oneCell'=true:=fun u hu=>by
 simp only[Ua,List.mem_cons,List.not_mem_nil,or_false]at hu;rcases hu with rfl|rfl|rfl|rfl<;>rfl
theorem J7 (m:Zi):∀u∈YB m,u.oneCell'=true:=fun u hu=>by
 simp only[YB,List.mem_cons,List.not_mem_nil,or_false]at hu;rcases hu with rfl|rfl|rfl<;>rfl
theorem Zaw {v:Value}{h:PH}{k:IntKind}{xs:List Int}(hx:Ints h k v xs):v.oneCell'=true:=by
 obtain⟨a,c,rfl,_⟩:=hx.open
 rfl
theorem Ycy {h:PH}{q:QM}(hq:Zs h q):∀u∈Wk q,u.oneCell'=true:=fun u hu=>by
 have h1:=Zaw hq.y;have h2:=Zaw hq.n;simp only[Wk,GL,List.mem_cons,List.mem_append,List.not_mem_nil,or_false]at hu;rcases hu with rfl|rfl|hu|hu
 ·rfl
 ·rfl
 ·obtain rfl|rfl|rfl|rfl|rfl|rfl|rfl|rfl|rfl|rfl|rfl|rfl|rfl|rfl|rfl|rfl|rfl|rfl|rfl|rfl|rfl|rfl|rfl|rfl:=hu<;>rfl
 ·rcases hu with rfl|rfl|rfl|rfl|rfl|rfl|rfl
  ·rfl
  ·rfl
  ·rfl
  ·rfl
  ·rfl
  ·exact h1
  ·exact h2
theorem Zsz {l:List Zc}(v:Value)(hv:Zh Ym 6 h v l)(hl:l.length≤1000)(hk:∀o,okO o l.length→apO o L h→K (ovs o l.length) (oent 74 6 o (l.flatMap Ym) L) h):Zb prog 99 [v] L h K:=by
 have hx:=hv;obtain⟨a,ca,rfl,hna,hca,h0,_⟩:=hx.open;refine ZS func99 rfl (rs:=[_]) rfl rfl ZX (by kernel_rfl) rfl rfl ?_;refine xx ?_
 cases ha:a.isNone with
 | true =>
  have ha':a=none:=by simpa using ha
  subst ha';have hl0:l.length=0:=by have:=h0 rfl;omega
  have hx':l=[]:=List.eq_nil_of_length_eq_zero hl0;subst hx';refine xx ?_;exact ZP (hk none rfl trivial)
 | false =>
  refine xx ?_;refine Z0 fun b1 nb1 zb1=>?_;(try simp only[ZT]at nb1);refine xx ?_;refine Z3 (t:=26) (e:=74) (sz:=6) (bytes:=48) (by kernel_rfl) Ybw rfl rfl rfl rfl (by decide) [] L (some (b1,0)) 0 [] ⟨Nat.le_refl _,Nat.zero_le _⟩ rfl (Src.known hx.s) (news:=l.flatMap Ym) (Z1 Yf l) (U2 Zqh l) (by simp [maxLen];omega) (by omega) ?_;intro o' j1 j2 j3;simp only[Nat.zero_add,List.nil_append]at j1 j2 ⊢;refine xx ?_;exact ZP (hk o' j1 j2)
theorem Zei {l:List Int}(v:Value)(hv:Ints h .i64 v l)(hl:l.length≤1000)(hk:∀o,okO o l.length→apO o L h→K (ovs o l.length) (oent 3 1 o (l.map (.int .i64)) L) h):Zb prog 100 [v] L h K:=by
 have hx:=hv;obtain⟨a,ca,rfl,hna,hca,h0,_⟩:=hx.open;refine ZS func100 rfl (rs:=[_]) rfl rfl ZX (by kernel_rfl) rfl rfl ?_;refine xx ?_
 cases ha:a.isNone with
 | true =>
  have ha':a=none:=by simpa using ha
  subst ha';have hl0:l.length=0:=by have:=h0 rfl;omega
  have hx':l=[]:=List.eq_nil_of_length_eq_zero hl0;subst hx';refine xx ?_;exact ZP (hk none rfl trivial)
 | false =>
  refine xx ?_;refine Z0 fun b1 nb1 zb1=>?_;(try simp only[ZT]at nb1);refine xx ?_;refine Z3 (t:=27) (e:=3) (sz:=1) (bytes:=8) (by kernel_rfl) GE rfl rfl rfl rfl (by decide) [] L (some (b1,0)) 0 [] ⟨Nat.le_refl _,Nat.zero_le _⟩ rfl (Src.known hx.1) (news:=l.map (Value.int .i64)) (by simp) (Jj _ _) (by simp [maxLen];omega) (by omega) ?_;intro o' j1 j2 j3;simp only[Nat.zero_add,List.nil_append]at j1 j2 ⊢;refine xx ?_;exact ZP (hk o' j1 j2)
theorem Zrk {l:List Zk}(v:Value)(hv:Zh Ua 4 h v l)(hl:l.length≤1000)(hk:∀h' r,PH.le h h'→Zh Ua 4 h' r l→K r L h'):Zb prog 101 [v] L h K:=by
 have hx:=hv;obtain⟨a,ca,rfl,hna,hca,h0,_⟩:=hx.open;refine ZS func101 rfl (rs:=[_]) rfl rfl ZX (by kernel_rfl) rfl rfl ?_;refine xx ?_
 cases ha:a.isNone with
 | true =>
  have ha':a=none:=by simpa using ha
  subst ha';have hl0:l.length=0:=by have:=h0 rfl;omega
  have hx':l=[]:=List.eq_nil_of_length_eq_zero hl0;subst hx';refine xx ?_;exact ZP (hk h _ (PH.le_refl h) (Zh.nil VY h))
 | false =>
  refine xx ?_;refine Z0 fun b1 nb1 zb1=>?_;(try simp only[ZT]at nb1);refine xx ?_;refine Z3 (t:=28) (e:=164) (sz:=4) (bytes:=32) (by kernel_rfl) Zdw rfl rfl rfl rfl (by decide) [] L (some (b1,0)) 0 [] ⟨Nat.le_refl _,Nat.zero_le _⟩ rfl (Src.known hx.s) (news:=l.flatMap Ua) (Z1 VY l) (U2 Ydq l) (by simp [maxLen];omega) (by omega) ?_;intro o' j1 j2 j3;simp only[Nat.zero_add,List.nil_append]at j1 j2 ⊢;refine xx ?_;exact YR (e:=164) (sz:=4) (n:=l.length) j1 (Z1 VY l) (by omega) j2 fun h' le sl=>ZP (hk h' _ le (Zh.pub hx.len sl))
theorem Zew {l:List Zi}(v:Value)(hv:Zh YB 3 h v l)(hl:l.length≤34000)(hk:∀h' r,PH.le h h'→Zh YB 3 h' r l→K r L h'):Zb prog 102 [v] L h K:=by
 have hx:=hv;obtain⟨a,ca,rfl,hna,hca,h0,_⟩:=hx.open;refine ZS func102 rfl (rs:=[_]) rfl rfl ZX (by kernel_rfl) rfl rfl ?_;refine xx ?_
 cases ha:a.isNone with
 | true =>
  have ha':a=none:=by simpa using ha
  subst ha';have hl0:l.length=0:=by have:=h0 rfl;omega
  have hx':l=[]:=List.eq_nil_of_length_eq_zero hl0;subst hx';refine xx ?_;exact ZP (hk h _ (PH.le_refl h) (Zh.nil Yy h))
 | false =>
  refine xx ?_;refine Z0 fun b1 nb1 zb1=>?_;(try simp only[ZT]at nb1);refine xx ?_;refine Z3 (t:=29) (e:=167) (sz:=3) (bytes:=24) (by kernel_rfl) UI rfl rfl rfl rfl (by decide) [] L (some (b1,0)) 0 [] ⟨Nat.le_refl _,Nat.zero_le _⟩ rfl (Src.known hx.s) (news:=l.flatMap YB) (Z1 Yy l) (U2 J7 l) (by simp [maxLen];omega) (by omega) ?_;intro o' j1 j2 j3;simp only[Nat.zero_add,List.nil_append]at j1 j2 ⊢;refine xx ?_;exact YR (e:=167) (sz:=3) (n:=l.length) j1 (Z1 Yy l) (by omega) j2 fun h' le sl=>ZP (hk h' _ le (Zh.pub hx.len sl))
theorem Zek {l:List QM}(v:Value)(hv:Zh Wk 33 h v l)(hm:∀x∈l,Zs h x)(hl:l.length≤1000)(hk:∀o,okO o l.length→apO o L h→K (ovs o l.length) (oent 120 33 o (l.flatMap Wk) L) h):Zb prog 103 [v] L h K:=by
 have hx:=hv;obtain⟨a,ca,rfl,hna,hca,h0,_⟩:=hx.open;refine ZS func103 rfl (rs:=[_]) rfl rfl ZX (by kernel_rfl) rfl rfl ?_;refine xx ?_
 cases ha:a.isNone with
 | true =>
  have ha':a=none:=by simpa using ha
  subst ha';have hl0:l.length=0:=by have:=h0 rfl;omega
  have hx':l=[]:=List.eq_nil_of_length_eq_zero hl0;subst hx';refine xx ?_;exact ZP (hk none rfl trivial)
 | false =>
  refine xx ?_;refine Z0 fun b1 nb1 zb1=>?_;(try simp only[ZT]at nb1);refine xx ?_;refine Z3 (t:=30) (e:=120) (sz:=33) (bytes:=296) (by kernel_rfl) Yih rfl rfl rfl rfl (by decide) [] L (some (b1,0)) 0 [] ⟨Nat.le_refl _,Nat.zero_le _⟩ rfl (Src.known hx.s) (news:=l.flatMap Wk) (Z1 Yl l) (fun u hu=>by obtain⟨a,hq,hb⟩:=List.mem_flatMap.1 hu;exact Ycy (hm a hq) u hb) (by simp [maxLen];omega) (by omega) ?_;intro o' j1 j2 j3;simp only[Nat.zero_add,List.nil_append]at j1 j2 ⊢;refine xx ?_;exact ZP (hk o' j1 j2)
theorem Zsv {l:List QS}(v:Value)(hv:Zx h v l)(hl:l.length≤1000)(hk:∀o,okO o l.length→apO o L h→K (ovs o l.length) (oent 31 1 o (vsL l) L) h):Zb prog 105 [v] L h K:=by
 have hx:=hv;obtain⟨a,ca,rfl,hna,hca,h0,_⟩:=hx.open;refine ZS func105 rfl (rs:=[_]) rfl rfl ZX (by kernel_rfl) rfl rfl ?_;refine xx ?_
 cases ha:a.isNone with
 | true =>
  have ha':a=none:=by simpa using ha
  subst ha';have hl0:l.length=0:=by have:=h0 rfl;omega
  have hx':l=[]:=List.eq_nil_of_length_eq_zero hl0;subst hx';refine xx ?_;exact ZP (hk none rfl trivial)
 | false =>
  refine xx ?_;refine Z0 fun b1 nb1 zb1=>?_;(try simp only[ZT]at nb1);refine xx ?_;refine Z3 (t:=32) (e:=31) (sz:=1) (bytes:=24) (by kernel_rfl) Yks rfl rfl rfl rfl (by decide) [] L (some (b1,0)) 0 [] ⟨Nat.le_refl _,Nat.zero_le _⟩ rfl (Src.known hx.s) (news:=vsL l) (by simp [vsL]) (fun u hu=>by obtain⟨q,hq,rfl⟩:=List.mem_map.1 hu;exact Zaw (hv.d q hq)) (by simp [maxLen];omega) (by omega) ?_;intro o' j1 j2 j3;simp only[Nat.zero_add,List.nil_append]at j1 j2 ⊢;refine xx ?_;exact ZP (hk o' j1 j2)
theorem Yjo {i j w m m':Nat}(hm:m<w)(hm':m'<w)(hij:i≠j):i*w+m≠j*w+m':=fun e=>by
 rcases Nat.lt_or_gt_of_ne hij with c|c
 ·have:=Nat.mul_le_mul_right w (show i+1≤j from c);rw[Nat.succ_mul]at this;omega
 ·have:=Nat.mul_le_mul_right w (show j+1≤i from c);rw[Nat.succ_mul]at this;omega
theorem WM {i n w m:Nat}(hi:i<n)(hm:m<w):i*w+m<n*w:=by
 have:=Nat.mul_le_mul_right w (show i+1≤n from hi);rw[Nat.succ_mul]at this;omega
theorem WK {α:Type}{f:α→List Value}{w:Nat}(hf:∀a,(f a).length=w)(z:α)(l:List α){i m:Nat}(hi:i<l.length)(hm:m<w){u:Value}{a':α}(ha:f a'=(f (gr z l i)).set m u):(l.flatMap f).set (i*w+m) u=(l.set i a').flatMap f:=by
 apply List.ext_getElem?;intro n;obtain⟨j,m',rfl,hm'⟩:∃j m',n=j*w+m'∧m'<w:=⟨n/w,n%w,by rw[Nat.mul_comm,Nat.div_add_mod],Nat.mod_lt _ (by omega)⟩
 rw[Ue hf _ j m' hm',List.getElem?_set,Ue hf _ j m' hm',List.getElem?_set];by_cases e:i=j
 ·subst e;have hll:i*w+m<(l.flatMap f).length:=by rw[Z1 hf];exact WM hi hm
  rw[if_pos rfl,if_pos hi];show _=(f a')[m']?;rw[ha,List.getElem?_set,Z9 hi];by_cases e2:m=m'
  ·subst e2;rw[if_pos rfl,if_pos hll,if_pos rfl,if_pos (by rw[hf];exact hm)]
  ·rw[if_neg (by omega),if_neg e2,List.getElem?_eq_getElem hi]
   rfl
 ·rw[if_neg (Yjo hm hm' e),if_neg e]
theorem YH {α:Type}{f:α→List Value}{w:Nat}(hf:∀a,(f a).length=w)(z:α)(l:List α){i m:Nat}(hi:i<l.length)(hm:m<w){u:Value}(hu:(f (gr z l i))[m]?=some u)(K:Value→Prop)(t:Zm K):Uy (l.flatMap f) (i*w+m) K t=K u :=
 Zzo (by rw[Ue hf l i m hm,List.getElem?_eq_getElem hi,← Z9 (z:=z) hi];exact hu)
theorem Z7 {e sz:Nat}(o:Option (Nat×Nat))(xs:List Value){L L':Own}(hp:L.Perm L'):(oent e sz o xs L).Perm (oent e sz o xs L'):=by
 cases o with
 | none=>exact hp
 | some p=>exact List.Perm.cons _ hp
def Yxq (h:PH)(q:List QS):Prop:=∀p∈q,Ints h .u8 p.1 p.2
def WI (h:PH)(q:List QM):Prop:=∀x∈q,Zs h x
structure ZD (s:Ze):Prop where
 p:s.purses.length≤1000
 m:s.members.length≤1000
 e:s.entry.length≤1000
 x:s.exit.length≤1000
 o:s.pool.length≤1000
 d:s.dues.length≤34000
 t:s.motions.length≤1000
 k:s.marks.length≤1000
 r:s.ring.length≤1000
 v:∀m∈s.motions,m.yes.length≤1000∧m.no.length≤1000
 b:∀b∈s.ring,b.length≤1000
abbrev setM (u:SV)(m:Value):SV:=⟨u.p,m,u.e,u.x,u.o,u.d,u.t,u.k,u.r⟩
theorem Yav {xs:List Int}(v:Value)(hx:Ints h .u64 v xs)(i:Nat)(hi:i<xs.length)(hk:K (.bool true) L h):Zb prog 378 [v,.int .i64 i] L h K:=by
 obtain⟨a,c,rfl,_,hl,_⟩:=hx.open;refine ZS func378 rfl (rs:=[_]) rfl rfl ZX (by kernel_rfl) rfl rfl ?_;refine xx ?_;exact ZP hk
theorem Yiu {xs:List Int}(v:Value)(hx:Ints h .u64 v xs)(i:Nat)(hi:i<xs.length)(hk:K (.tuple #[.int .u64 (at0 xs i),.int .i64 0]) L h):Zb prog 361 [v,.int .i64 i] L h K:=by
 have hx0:=hx;obtain⟨a,c,rfl,_,hl,_,hcs⟩:=hx.open;refine ZS func361 rfl (rs:=[_,_]) rfl rfl ZX (by kernel_rfl) rfl rfl ?_;refine xx ?_;refine Yav _ hx0 i hi ?_;simp -dsimp -implicitDefEqProofs (disch:=first|with_reducible assumption|omega) [go_sem,idx hcs];exact ZP hk
theorem Zyo {xs:List Int}(v:Value)(hx:Ints h .u64 v xs)(hl:xs.length≤1000)(i:Nat)(hi:i<xs.length)(n:Int)(hn:0≤n∧n≤18446744073709551615)(hk:∀h' r,PH.le h h'→Ints h' .u64 r (xs.set i n)→K r L h'):Zb prog 362 [v,.int .i64 i,.int .u64 n] L h K:=by
 have hx0:=hx;have hxw:=hx.word;obtain⟨a,c,rfl,_,hl2,_,hcs⟩:=hx.open;refine ZS func362 rfl (rs:=[_]) rfl rfl ZX (by kernel_rfl) rfl rfl ?_;refine xx ?_;refine G8 (e:=22) (z:=.int .u64 0) (by kernel_rfl) Ug rfl rfl .i64 .i64 _ (by omega) (by simp;omega) (by omega) ?_;simp only[Int.toNat_natCast];refine Z0 fun b1 nb1 zb1=>?_;(try simp only[ZT]at nb1);refine xx ?_;refine Yke (e:=22) (sz:=1) (by kernel_rfl) Ug rfl (Src.known hx0.1) (by simp) (Nat.le_refl _) ?_;have hw:wr (List.replicate xs.length (Value.int .u64 0)) 0 (xs.map (Value.int .u64))=xs.map (Value.int .u64):=by
  rw[Gg _ _ _ (by simp)];simp
 simp -dsimp -implicitDefEqProofs (disch:=first|with_reducible assumption|omega) [go_sem,hw,VO];refine⟨by omega,?_⟩;rw[← List.map_set]
 have:=YR (K:=K) (L:=L) (v:=.slice (some ⟨b1,0,none⟩) xs.length xs.length) (e:=22) (sz:=1) (o:=some (b1,xs.length)) (n:=xs.length) (xs:=(xs.set i n).map (.int .u64)) (h:=h) (L0:=L) ⟨Nat.le_refl _,by simp [maxLen];omega⟩ (by simp) (by omega) ⟨nb1,zb1⟩ fun h' le sl=>ZP (hk h' _ le ⟨by rw[List.length_set];exact sl,fun z hz=>by
  rw[show IntKind.u64.min=0 by decide,show IntKind.u64.max=18446744073709551615 by decide];rcases List.mem_or_eq_of_mem_set hz with hz|rfl
  ·have:=hx0.2 z hz
   rwa [show IntKind.u64.min=0 by decide,show IntKind.u64.max=18446744073709551615 by decide]at this
  ·exact hn⟩)
 simpa only[oent,Nat.mul_one] using this
theorem Ymn {xs:List Int}(v:Value)(hx:Ints h .u64 v xs)(hl:xs.length≤1000)(i:Nat)(hi:i<xs.length)(n:Int)(hn:0≤n)(hs:at0 xs i+n≤4611686018427387904)(hk:∀h' r,PH.le h h'→Ints h' .u64 r (xs.set i (at0 xs i+n))→K (.tuple #[r,.int .i64 0]) L h'):Zb prog 308 [v,.int .i64 i,.int .u64 n] L h K:=by
 have hx0:=hx;have hw:=hx.word i;obtain⟨a,c,rfl,_,hl2,_⟩:=hx.open;refine ZS func308 rfl (rs:=[_,_]) rfl rfl ZX (by kernel_rfl) rfl rfl ?_;refine xx ?_;refine Yiu _ hx0 i hi ?_;refine xx ?_;refine WA (at0 xs i) n hw (by omega) ?_;rw[YF (by omega)];refine xx ?_;refine Zyo _ hx0 hl i hi _ (by omega) fun h1 r le i1=>?_;obtain⟨ra,rc,rfl,_⟩:=i1.open;have h2:=hk h1 _ le i1;rw[List.length_set]at h2;refine xx ?_;exact ZP h2
theorem Zqx (p:Zd)(ok:Zj p)(hr:Yd p=true)(b:Int)(hb:0≤b∧b≤18446744073709551615)(hk:K (.tuple #[.int .u64 (min b p.cap),.int .u64 (b-min b p.cap)]) L h):Zb prog 223 [WR p,.int .u64 b] L h K:=by
 have hc:=ok.w p.cap (by simp [Ys]);refine ZS func223 rfl (rs:=[_,_]) rfl rfl ZX (by kernel_rfl) rfl rfl ?_;refine xx ?_;refine Z0 fun b1 nb1 zb1=>?_;(try simp only[ZT]at nb1);refine xx ?_;refine Jo p ok ?_;rw[hr];refine xx ?_;refine Z0 fun b2 nb2 zb2=>?_;(try simp only[ZT]at nb2);refine xx ?_;have take:∀ {K':PK} {L':Own},K' (.tuple #[.int .u64 (min b p.cap),.int .u64 (b-min b p.cap)]) L' h→Zb prog 300 [.int .u64 b,.int .u64 p.cap] L' h K':=fun {K' L'} hK=>by
  refine ZS func300 rfl (rs:=[_,_]) rfl rfl ZX (by kernel_rfl) rfl rfl ?_;refine xx ?_;exact ZP hK
 refine take ?_;refine xx ?_;exact ZO (ZO (ZP hk))
theorem Zyg (p:Zd)(ok:Zj p)(hr:Yd p=true)(e b:Int)(he:0≤e∧e≤18446744073709551615)(hb:0≤b∧b≤18446744073709551615)(hk:K (.int .u64 (Gq p e b)) L h):Zb prog 226 [WR p,.int .u64 e,.int .u64 b] L h K:=by
 refine ZS func226 rfl (rs:=[_]) rfl rfl ZX (by kernel_rfl) rfl rfl ?_;refine xx ?_;refine Z0 fun b1 nb1 zb1=>?_;(try simp only[ZT]at nb1);refine xx ?_;refine Jo p ok ?_;rw[hr];refine xx ?_;refine Z0 fun b2 nb2 zb2=>?_;(try simp only[ZT]at nb2);refine xx ?_;refine Zog p ok (Ja hr) e b he hb ?_;refine xx ?_;exact ZO (ZO (ZP hk))
theorem Yys {l:List Zc}{k:Nat}(hk:k<l.length){i:Nat}(hi:i<6){u:Value}{a a':Zc}(ha:Ym a'=(Ym a).set i u):((l.set k a).flatMap Ym).set (k*6+i) u=(l.set k a').flatMap Ym:=by
 rw[WK Yf ZQ (l.set k a) (by rw[List.length_set];exact hk) hi (a':=a') (by rw[Z9 (by rw[List.length_set];exact hk),List.getElem_set_self];exact ha),List.set_set]
theorem fset4 {l:List Zc}{k:Nat}(hk:k<l.length)(a b:Zc)(ho:b.owner=a.owner)(hs:b.status=a.status) :
  (((((l.set k a).flatMap Ym).set (k*6) (.int .u64 b.bal)).set (k*6+1) (.int .u64 b.eff)).set (k*6+2) (.int .u64 b.score)).set (k*6+3) (.int .i64 b.streak)=(l.set k b).flatMap Ym:=by
 have h0:((l.set k a).flatMap Ym).set (k*6) (.int .u64 b.bal)=(l.set k { a with bal:=b.bal }).flatMap Ym:=Yys hk (i:=0) (by decide) rfl;have h1:((l.set k { a with bal:=b.bal }).flatMap Ym).set (k*6+1) (.int .u64 b.eff)=(l.set k { a with bal:=b.bal,eff:=b.eff }).flatMap Ym:=Yys hk (by decide) rfl;have h2:((l.set k { a with bal:=b.bal,eff:=b.eff }).flatMap Ym).set (k*6+2) (.int .u64 b.score)=(l.set k { a with bal:=b.bal,eff:=b.eff,score:=b.score }).flatMap Ym:=Yys hk (by decide) rfl;have h3:((l.set k { a with bal:=b.bal,eff:=b.eff,score:=b.score }).flatMap Ym).set (k*6+3) (.int .i64 b.streak)=(l.set k { a with bal:=b.bal,eff:=b.eff,score:=b.score,streak:=b.streak }).flatMap Ym:=Yys hk (by decide) rfl;rw[h0,h1,h2,h3];have:({ a with bal:=b.bal,eff:=b.eff,score:=b.score,streak:=b.streak }:Zc)=b:=by
  cases a;cases b;simp only at ho hs;subst ho;subst hs;rfl
 rw[this]
def Ui (q:Zd)(m:Zc):Zc:=Gf q { m with bal:=min m.bal q.cap }
def Wz (q:Zd)(m:Zc):Zc:={ m with eff:=if W8 q (Gq q m.eff m.bal) m.bal then Gq q m.eff m.bal else Wm q m.bal }
end Go.X
