/- Lemmas and contracts. Conditions: as each says. -/
import Derived.Test.YtllhopbilpdpkaaGreatQ15
set_option linter.unusedVariables false
set_option linter.unusedSimpArgs false
set_option maxHeartbeats 12800000
set_option maxRecDepth 20000
namespace Go.X
open Go.RowKit Go.Proofs Go.Bl Go.Proofs.Tryz
variable {L:Own} {h:PH} {K:PK}
theorem UD {α:Type}{f:α→List Value}(h1:∀a,∀u∈f a,u.oneCell'=true)(l:List α):∀u∈l.flatMap f,u.oneCell'=true:=fun u hu=>by
 obtain⟨a,_,hb⟩:=List.mem_flatMap.1 hu;exact h1 a u hb
theorem Znp (m:Zb):∀u∈Yv m,u.oneCell'=true:=fun u hu=>by
 simp only[Yv,List.mem_cons,List.not_mem_nil,or_false]at hu;rcases hu with rfl|rfl|rfl|rfl|rfl|rfl<;>rfl
theorem Yav (m:Zo):∀u∈Zaf m,u.oneCell'=true:=fun u hu=>by
 simp only[Zaf,List.mem_cons,List.not_mem_nil,or_false]at hu;rcases hu with rfl|rfl|rfl|rfl<;>rfl
theorem JR (m:Zg):∀u∈Yz m,u.oneCell'=true:=fun u hu=>by
 simp only[Yz,List.mem_cons,List.not_mem_nil,or_false]at hu;rcases hu with rfl|rfl|rfl<;>rfl
theorem G7 {v:Value}{h:PH}{k:IntKind}{xs:List Int}(hx:Ints h k v xs):v.oneCell'=true:=by
 obtain⟨a,c,rfl,_⟩:=hx.open
 rfl
theorem Zyx {h:PH}{q:QM}(hq:Zu h q):∀u∈WE q,u.oneCell'=true:=fun u hu=>by
 have h1:=G7 hq.y;have h2:=G7 hq.n;simp only[WE,Zbs,List.mem_cons,List.mem_append,List.not_mem_nil,or_false]at hu;rcases hu with rfl|rfl|hu|hu
 ·rfl
 ·rfl
 ·obtain rfl|rfl|rfl|rfl|rfl|rfl|rfl|rfl|rfl|rfl|rfl|rfl|rfl|rfl|rfl|rfl|rfl|rfl|rfl|rfl|rfl|rfl|rfl|rfl:=hu<;>rfl
 ·rcases hu with rfl|rfl|rfl|rfl|rfl|rfl|rfl
  ·rfl
  ·rfl
  ·rfl
  ·rfl
  ·rfl
  ·exact h1
  ·exact h2
theorem Zom {l:List Zb}(v:Value)(hv:Zh Yv 6 h v l)(hl:l.length≤1000)(hk:∀o,okO o l.length→apO o L h→K (ovs o l.length) (oent 74 6 o (l.flatMap Yv) L) h):Zc prog 99 [v] L h K:=by
 have hx:=hv;obtain⟨a,ca,rfl,hna,hca,h0,_⟩:=hx.open;refine ZS func99 rfl (rs:=[_]) rfl rfl ZW (by kernel_rfl) rfl rfl ?_;refine xx ?_
 cases ha:a.isNone with
 | true =>
  have ha':a=none:=by simpa using ha
  subst ha';have hl0:l.length=0:=by have:=h0 rfl;omega
  have hx':l=[]:=List.eq_nil_of_length_eq_zero hl0;subst hx';refine xx ?_;exact ZO (hk none rfl trivial)
 | false =>
  refine xx ?_;refine Z2 fun b1 nb1 zb1=>?_;(try simp only[ZT]at nb1);refine xx ?_;refine Z4 (t:=26) (e:=74) (sz:=6) (bytes:=48) (by kernel_rfl) Yby rfl rfl rfl rfl (by decide) [] L (some (b1,0)) 0 [] ⟨Nat.le_refl _,Nat.zero_le _⟩ rfl (Src.known hx.s) (news:=l.flatMap Yv) (Z0 Yg l) (UD Znp l) (by simp [maxLen];omega) (by omega) ?_;intro o' j1 j2 j3;simp only[Nat.zero_add,List.nil_append]at j1 j2 ⊢;refine xx ?_;exact ZO (hk o' j1 j2)
theorem Zbu {l:List Int}(v:Value)(hv:Ints h .i64 v l)(hl:l.length≤1000)(hk:∀o,okO o l.length→apO o L h→K (ovs o l.length) (oent 3 1 o (l.map (.int .i64)) L) h):Zc prog 100 [v] L h K:=by
 have hx:=hv;obtain⟨a,ca,rfl,hna,hca,h0,_⟩:=hx.open;refine ZS func100 rfl (rs:=[_]) rfl rfl ZW (by kernel_rfl) rfl rfl ?_;refine xx ?_
 cases ha:a.isNone with
 | true =>
  have ha':a=none:=by simpa using ha
  subst ha';have hl0:l.length=0:=by have:=h0 rfl;omega
  have hx':l=[]:=List.eq_nil_of_length_eq_zero hl0;subst hx';refine xx ?_;exact ZO (hk none rfl trivial)
 | false =>
  refine xx ?_;refine Z2 fun b1 nb1 zb1=>?_;(try simp only[ZT]at nb1);refine xx ?_;refine Z4 (t:=27) (e:=3) (sz:=1) (bytes:=8) (by kernel_rfl) Zds rfl rfl rfl rfl (by decide) [] L (some (b1,0)) 0 [] ⟨Nat.le_refl _,Nat.zero_le _⟩ rfl (Src.known hx.1) (news:=l.map (Value.int .i64)) (by simp) (JF _ _) (by simp [maxLen];omega) (by omega) ?_;intro o' j1 j2 j3;simp only[Nat.zero_add,List.nil_append]at j1 j2 ⊢;refine xx ?_;exact ZO (hk o' j1 j2)
theorem Zoj {l:List Zo}(v:Value)(hv:Zh Zaf 4 h v l)(hl:l.length≤1000)(hk:∀h' r,PH.le h h'→Zh Zaf 4 h' r l→K r L h'):Zc prog 101 [v] L h K:=by
 have hx:=hv;obtain⟨a,ca,rfl,hna,hca,h0,_⟩:=hx.open;refine ZS func101 rfl (rs:=[_]) rfl rfl ZW (by kernel_rfl) rfl rfl ?_;refine xx ?_
 cases ha:a.isNone with
 | true =>
  have ha':a=none:=by simpa using ha
  subst ha';have hl0:l.length=0:=by have:=h0 rfl;omega
  have hx':l=[]:=List.eq_nil_of_length_eq_zero hl0;subst hx';refine xx ?_;exact ZO (hk h _ (PH.le_refl h) (Zh.nil V1 h))
 | false =>
  refine xx ?_;refine Z2 fun b1 nb1 zb1=>?_;(try simp only[ZT]at nb1);refine xx ?_;refine Z4 (t:=28) (e:=164) (sz:=4) (bytes:=32) (by kernel_rfl) Zcc rfl rfl rfl rfl (by decide) [] L (some (b1,0)) 0 [] ⟨Nat.le_refl _,Nat.zero_le _⟩ rfl (Src.known hx.s) (news:=l.flatMap Zaf) (Z0 V1 l) (UD Yav l) (by simp [maxLen];omega) (by omega) ?_;intro o' j1 j2 j3;simp only[Nat.zero_add,List.nil_append]at j1 j2 ⊢;refine xx ?_;exact Wh (e:=164) (sz:=4) (n:=l.length) j1 (Z0 V1 l) (by omega) j2 fun h' le sl=>ZO (hk h' _ le (Zh.pub hx.len sl))
theorem Zbw {l:List Zg}(v:Value)(hv:Zh Yz 3 h v l)(hl:l.length≤34000)(hk:∀h' r,PH.le h h'→Zh Yz 3 h' r l→K r L h'):Zc prog 102 [v] L h K:=by
 have hx:=hv;obtain⟨a,ca,rfl,hna,hca,h0,_⟩:=hx.open;refine ZS func102 rfl (rs:=[_]) rfl rfl ZW (by kernel_rfl) rfl rfl ?_;refine xx ?_
 cases ha:a.isNone with
 | true =>
  have ha':a=none:=by simpa using ha
  subst ha';have hl0:l.length=0:=by have:=h0 rfl;omega
  have hx':l=[]:=List.eq_nil_of_length_eq_zero hl0;subst hx';refine xx ?_;exact ZO (hk h _ (PH.le_refl h) (Zh.nil Yr h))
 | false =>
  refine xx ?_;refine Z2 fun b1 nb1 zb1=>?_;(try simp only[ZT]at nb1);refine xx ?_;refine Z4 (t:=29) (e:=167) (sz:=3) (bytes:=24) (by kernel_rfl) Un rfl rfl rfl rfl (by decide) [] L (some (b1,0)) 0 [] ⟨Nat.le_refl _,Nat.zero_le _⟩ rfl (Src.known hx.s) (news:=l.flatMap Yz) (Z0 Yr l) (UD JR l) (by simp [maxLen];omega) (by omega) ?_;intro o' j1 j2 j3;simp only[Nat.zero_add,List.nil_append]at j1 j2 ⊢;refine xx ?_;exact Wh (e:=167) (sz:=3) (n:=l.length) j1 (Z0 Yr l) (by omega) j2 fun h' le sl=>ZO (hk h' _ le (Zh.pub hx.len sl))
theorem Zbv {l:List QM}(v:Value)(hv:Zh WE 33 h v l)(hm:∀x∈l,Zu h x)(hl:l.length≤1000)(hk:∀o,okO o l.length→apO o L h→K (ovs o l.length) (oent 120 33 o (l.flatMap WE) L) h):Zc prog 103 [v] L h K:=by
 have hx:=hv;obtain⟨a,ca,rfl,hna,hca,h0,_⟩:=hx.open;refine ZS func103 rfl (rs:=[_]) rfl rfl ZW (by kernel_rfl) rfl rfl ?_;refine xx ?_
 cases ha:a.isNone with
 | true =>
  have ha':a=none:=by simpa using ha
  subst ha';have hl0:l.length=0:=by have:=h0 rfl;omega
  have hx':l=[]:=List.eq_nil_of_length_eq_zero hl0;subst hx';refine xx ?_;exact ZO (hk none rfl trivial)
 | false =>
  refine xx ?_;refine Z2 fun b1 nb1 zb1=>?_;(try simp only[ZT]at nb1);refine xx ?_;refine Z4 (t:=30) (e:=120) (sz:=33) (bytes:=296) (by kernel_rfl) Yez rfl rfl rfl rfl (by decide) [] L (some (b1,0)) 0 [] ⟨Nat.le_refl _,Nat.zero_le _⟩ rfl (Src.known hx.s) (news:=l.flatMap WE) (Z0 Yh l) (fun u hu=>by obtain⟨a,hq,hb⟩:=List.mem_flatMap.1 hu;exact Zyx (hm a hq) u hb) (by simp [maxLen];omega) (by omega) ?_;intro o' j1 j2 j3;simp only[Nat.zero_add,List.nil_append]at j1 j2 ⊢;refine xx ?_;exact ZO (hk o' j1 j2)
theorem Zpq {l:List QS}(v:Value)(hv:Zw h v l)(hl:l.length≤1000)(hk:∀o,okO o l.length→apO o L h→K (ovs o l.length) (oent 31 1 o (vsL l) L) h):Zc prog 105 [v] L h K:=by
 have hx:=hv;obtain⟨a,ca,rfl,hna,hca,h0,_⟩:=hx.open;refine ZS func105 rfl (rs:=[_]) rfl rfl ZW (by kernel_rfl) rfl rfl ?_;refine xx ?_
 cases ha:a.isNone with
 | true =>
  have ha':a=none:=by simpa using ha
  subst ha';have hl0:l.length=0:=by have:=h0 rfl;omega
  have hx':l=[]:=List.eq_nil_of_length_eq_zero hl0;subst hx';refine xx ?_;exact ZO (hk none rfl trivial)
 | false =>
  refine xx ?_;refine Z2 fun b1 nb1 zb1=>?_;(try simp only[ZT]at nb1);refine xx ?_;refine Z4 (t:=32) (e:=31) (sz:=1) (bytes:=24) (by kernel_rfl) Yih rfl rfl rfl rfl (by decide) [] L (some (b1,0)) 0 [] ⟨Nat.le_refl _,Nat.zero_le _⟩ rfl (Src.known hx.s) (news:=vsL l) (by simp [vsL]) (fun u hu=>by obtain⟨q,hq,rfl⟩:=List.mem_map.1 hu;exact G7 (hv.d q hq)) (by simp [maxLen];omega) (by omega) ?_;intro o' j1 j2 j3;simp only[Nat.zero_add,List.nil_append]at j1 j2 ⊢;refine xx ?_;exact ZO (hk o' j1 j2)
theorem Ygs {i j w m m':Nat}(hm:m<w)(hm':m'<w)(hij:i≠j):i*w+m≠j*w+m':=fun e=>by
 rcases Nat.lt_or_gt_of_ne hij with c|c
 ·have:=Nat.mul_le_mul_right w (show i+1≤j from c);rw[Nat.succ_mul]at this;omega
 ·have:=Nat.mul_le_mul_right w (show j+1≤i from c);rw[Nat.succ_mul]at this;omega
theorem Y5 {i n w m:Nat}(hi:i<n)(hm:m<w):i*w+m<n*w:=by
 have:=Nat.mul_le_mul_right w (show i+1≤n from hi);rw[Nat.succ_mul]at this;omega
theorem Yx {α:Type}{f:α→List Value}{w:Nat}(hf:∀a,(f a).length=w)(z:α)(l:List α){i m:Nat}(hi:i<l.length)(hm:m<w){u:Value}{a':α}(ha:f a'=(f (gr z l i)).set m u):(l.flatMap f).set (i*w+m) u=(l.set i a').flatMap f:=by
 apply List.ext_getElem?;intro n;obtain⟨j,m',rfl,hm'⟩:∃j m',n=j*w+m'∧m'<w:=⟨n/w,n%w,by rw[Nat.mul_comm,Nat.div_add_mod],Nat.mod_lt _ (by omega)⟩
 rw[VO hf _ j m' hm',List.getElem?_set,VO hf _ j m' hm',List.getElem?_set];by_cases e:i=j
 ·subst e;have hll:i*w+m<(l.flatMap f).length:=by rw[Z0 hf];exact Y5 hi hm
  rw[if_pos rfl,if_pos hi];show _=(f a')[m']?;rw[ha,List.getElem?_set,Z8 hi];by_cases e2:m=m'
  ·subst e2;rw[if_pos rfl,if_pos hll,if_pos rfl,if_pos (by rw[hf];exact hm)]
  ·rw[if_neg (by omega),if_neg e2,List.getElem?_eq_getElem hi]
   rfl
 ·rw[if_neg (Ygs hm hm' e),if_neg e]
theorem Z1 {α:Type}{f:α→List Value}{w:Nat}(hf:∀a,(f a).length=w)(z:α)(l:List α){i m:Nat}(hi:i<l.length)(hm:m<w){u:Value}(hu:(f (gr z l i))[m]?=some u)(K:Value→Prop)(t:Zk K):Wz (l.flatMap f) (i*w+m) K t=K u :=
 Ztk (by rw[VO hf l i m hm,List.getElem?_eq_getElem hi,← Z8 (z:=z) hi];exact hu)
theorem Z5 {e sz:Nat}(o:Option (Nat×Nat))(xs:List Value){L L':Own}(hp:L.Perm L'):(oent e sz o xs L).Perm (oent e sz o xs L'):=by
 cases o with
 | none=>exact hp
 | some p=>exact List.Perm.cons _ hp
def Ymu (h:PH)(q:List QS):Prop:=∀p∈q,Ints h .u8 p.1 p.2
def WF (h:PH)(q:List QM):Prop:=∀x∈q,Zu h x
structure ZD (s:Zd):Prop where
 p:s.purses.length≤1000
 m:s.members.length≤1000
 e:s.entry.length≤1000
 x:s.exit.length≤1000
 o:s.pool.length≤1000
 d:s.dues.length≤34000
 t:s.motions.length≤1000
 k:s.marks.length≤1000
 r:s.ring.length≤1000
 v:∀m∈s.motions,m.yes.length≤1000∧m.no.length≤1000
 b:∀b∈s.ring,b.length≤1000
abbrev setM (u:SV)(m:Value):SV:=⟨u.p,m,u.e,u.x,u.o,u.d,u.t,u.k,u.r⟩
theorem Zsk {xs:List Int}(v:Value)(hx:Ints h .u64 v xs)(i:Nat)(hi:i<xs.length)(hk:K (.bool true) L h):Zc prog 378 [v,.int .i64 i] L h K:=by
 obtain⟨a,c,rfl,_,hl,_⟩:=hx.open;refine ZS func378 rfl (rs:=[_]) rfl rfl ZW (by kernel_rfl) rfl rfl ?_;refine xx ?_;exact ZO hk
theorem Yfz {xs:List Int}(v:Value)(hx:Ints h .u64 v xs)(i:Nat)(hi:i<xs.length)(hk:K (.tuple #[.int .u64 (at0 xs i),.int .i64 0]) L h):Zc prog 361 [v,.int .i64 i] L h K:=by
 have hx0:=hx;obtain⟨a,c,rfl,_,hl,_,hcs⟩:=hx.open;refine ZS func361 rfl (rs:=[_,_]) rfl rfl ZW (by kernel_rfl) rfl rfl ?_;refine xx ?_;refine Zsk _ hx0 i hi ?_;simp -dsimp -implicitDefEqProofs (disch:=first|with_reducible assumption|omega) [go_sem,idx hcs];exact ZO hk
theorem Zuz {xs:List Int}(v:Value)(hx:Ints h .u64 v xs)(hl:xs.length≤1000)(i:Nat)(hi:i<xs.length)(n:Int)(hn:0≤n∧n≤18446744073709551615)(hk:∀h' r,PH.le h h'→Ints h' .u64 r (xs.set i n)→K r L h'):Zc prog 362 [v,.int .i64 i,.int .u64 n] L h K:=by
 have hx0:=hx;have hxw:=hx.word;obtain⟨a,c,rfl,_,hl2,_,hcs⟩:=hx.open;refine ZS func362 rfl (rs:=[_]) rfl rfl ZW (by kernel_rfl) rfl rfl ?_;refine xx ?_;refine Zei (e:=22) (z:=.int .u64 0) (by kernel_rfl) VB rfl rfl .i64 .i64 _ (by omega) (by simp;omega) (by omega) ?_;simp only[Int.toNat_natCast];refine Z2 fun b1 nb1 zb1=>?_;(try simp only[ZT]at nb1);refine xx ?_;refine Yge (e:=22) (sz:=1) (by kernel_rfl) VB rfl (Src.known hx0.1) (by simp) (Nat.le_refl _) ?_;have hw:wr (List.replicate xs.length (Value.int .u64 0)) 0 (xs.map (Value.int .u64))=xs.map (Value.int .u64):=by
  rw[JM _ _ _ (by simp)];simp
 simp -dsimp -implicitDefEqProofs (disch:=first|with_reducible assumption|omega) [go_sem,hw,UH];refine⟨by omega,?_⟩;rw[← List.map_set]
 have:=Wh (K:=K) (L:=L) (v:=.slice (some ⟨b1,0,none⟩) xs.length xs.length) (e:=22) (sz:=1) (o:=some (b1,xs.length)) (n:=xs.length) (xs:=(xs.set i n).map (.int .u64)) (h:=h) (L0:=L) ⟨Nat.le_refl _,by simp [maxLen];omega⟩ (by simp) (by omega) ⟨nb1,zb1⟩ fun h' le sl=>ZO (hk h' _ le ⟨by rw[List.length_set];exact sl,fun z hz=>by
  rw[show IntKind.u64.min=0 by decide,show IntKind.u64.max=18446744073709551615 by decide];rcases List.mem_or_eq_of_mem_set hz with hz|rfl
  ·have:=hx0.2 z hz
   rwa [show IntKind.u64.min=0 by decide,show IntKind.u64.max=18446744073709551615 by decide]at this
  ·exact hn⟩)
 simpa only[oent,Nat.mul_one] using this
theorem Ygm {xs:List Int}(v:Value)(hx:Ints h .u64 v xs)(hl:xs.length≤1000)(i:Nat)(hi:i<xs.length)(n:Int)(hn:0≤n)(hs:at0 xs i+n≤4611686018427387904)(hk:∀h' r,PH.le h h'→Ints h' .u64 r (xs.set i (at0 xs i+n))→K (.tuple #[r,.int .i64 0]) L h'):Zc prog 308 [v,.int .i64 i,.int .u64 n] L h K:=by
 have hx0:=hx;have hw:=hx.word i;obtain⟨a,c,rfl,_,hl2,_⟩:=hx.open;refine ZS func308 rfl (rs:=[_,_]) rfl rfl ZW (by kernel_rfl) rfl rfl ?_;refine xx ?_;refine Yfz _ hx0 i hi ?_;refine xx ?_;refine WI (at0 xs i) n hw (by omega) ?_;rw[Yi (by omega)];refine xx ?_;refine Zuz _ hx0 hl i hi _ (by omega) fun h1 r le i1=>?_;obtain⟨ra,rc,rfl,_⟩:=i1.open;have h2:=hk h1 _ le i1;rw[List.length_set]at h2;refine xx ?_;exact ZO h2
theorem Zox (p:Ze)(ok:Zj p)(hr:YM p=true)(b:Int)(hb:0≤b∧b≤18446744073709551615)(hk:K (.tuple #[.int .u64 (min b p.cap),.int .u64 (b-min b p.cap)]) L h):Zc prog 223 [Ud p,.int .u64 b] L h K:=by
 have hc:=ok.w p.cap (by simp [YN]);refine ZS func223 rfl (rs:=[_,_]) rfl rfl ZW (by kernel_rfl) rfl rfl ?_;refine xx ?_;refine Z2 fun b1 nb1 zb1=>?_;(try simp only[ZT]at nb1);refine xx ?_;refine U4 p ok ?_;rw[hr];refine xx ?_;refine Z2 fun b2 nb2 zb2=>?_;(try simp only[ZT]at nb2);refine xx ?_;have take:∀ {K':PK} {L':Own},K' (.tuple #[.int .u64 (min b p.cap),.int .u64 (b-min b p.cap)]) L' h→Zc prog 300 [.int .u64 b,.int .u64 p.cap] L' h K':=fun {K' L'} hK=>by
  refine ZS func300 rfl (rs:=[_,_]) rfl rfl ZW (by kernel_rfl) rfl rfl ?_;refine xx ?_;exact ZO hK
 refine take ?_;refine xx ?_;exact ZP (ZP (ZO hk))
theorem Zvx (p:Ze)(ok:Zj p)(hr:YM p=true)(e b:Int)(he:0≤e∧e≤18446744073709551615)(hb:0≤b∧b≤18446744073709551615)(hk:K (.int .u64 (Zab p e b)) L h):Zc prog 226 [Ud p,.int .u64 e,.int .u64 b] L h K:=by
 refine ZS func226 rfl (rs:=[_]) rfl rfl ZW (by kernel_rfl) rfl rfl ?_;refine xx ?_;refine Z2 fun b1 nb1 zb1=>?_;(try simp only[ZT]at nb1);refine xx ?_;refine U4 p ok ?_;rw[hr];refine xx ?_;refine Z2 fun b2 nb2 zb2=>?_;(try simp only[ZT]at nb2);refine xx ?_;refine Zlf p ok (J6 hr) e b he hb ?_;refine xx ?_;exact ZP (ZP (ZO hk))
theorem Yon {l:List Zb}{k:Nat}(hk:k<l.length){i:Nat}(hi:i<6){u:Value}{a a':Zb}(ha:Yv a'=(Yv a).set i u):((l.set k a).flatMap Yv).set (k*6+i) u=(l.set k a').flatMap Yv:=by
 rw[Yx Yg ZQ (l.set k a) (by rw[List.length_set];exact hk) hi (a':=a') (by rw[Z8 (by rw[List.length_set];exact hk),List.getElem_set_self];exact ha),List.set_set]
theorem fset4 {l:List Zb}{k:Nat}(hk:k<l.length)(a b:Zb)(ho:b.owner=a.owner)(hs:b.status=a.status) :
  (((((l.set k a).flatMap Yv).set (k*6) (.int .u64 b.bal)).set (k*6+1) (.int .u64 b.eff)).set (k*6+2) (.int .u64 b.score)).set (k*6+3) (.int .i64 b.streak)=(l.set k b).flatMap Yv:=by
 have h0:((l.set k a).flatMap Yv).set (k*6) (.int .u64 b.bal)=(l.set k { a with bal:=b.bal }).flatMap Yv:=Yon hk (i:=0) (by decide) rfl;have h1:((l.set k { a with bal:=b.bal }).flatMap Yv).set (k*6+1) (.int .u64 b.eff)=(l.set k { a with bal:=b.bal,eff:=b.eff }).flatMap Yv:=Yon hk (by decide) rfl;have h2:((l.set k { a with bal:=b.bal,eff:=b.eff }).flatMap Yv).set (k*6+2) (.int .u64 b.score)=(l.set k { a with bal:=b.bal,eff:=b.eff,score:=b.score }).flatMap Yv:=Yon hk (by decide) rfl;have h3:((l.set k { a with bal:=b.bal,eff:=b.eff,score:=b.score }).flatMap Yv).set (k*6+3) (.int .i64 b.streak)=(l.set k { a with bal:=b.bal,eff:=b.eff,score:=b.score,streak:=b.streak }).flatMap Yv:=Yon hk (by decide) rfl;rw[h0,h1,h2,h3];have:({ a with bal:=b.bal,eff:=b.eff,score:=b.score,streak:=b.streak }:Zb)=b:=by
  cases a;cases b;simp only at ho hs;subst ho;subst hs;rfl
 rw[this]
def VT (q:Ze)(m:Zb):Zb:=Zdz q { m with bal:=min m.bal q.cap }
def WM (q:Ze)(m:Zb):Zb:={ m with eff:=if VV q (Zab q m.eff m.bal) m.bal then Zab q m.eff m.bal else Wi q m.bal }
end Go.X
