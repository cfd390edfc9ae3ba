/- Lemmas and contracts. Conditions: as each says. -/
import Derived.Test.YtmmfajokfdaokaaGreatQ07
import Derived.Test.YtmmfajokfdaokaaGreatQ09
set_option linter.unusedVariables false
set_option linter.unusedSimpArgs false
set_option maxHeartbeats 12800000
set_option maxRecDepth 20000
namespace Go.X
open Go.RowKit Go.Proofs Go.Bl
variable {L:Own} {h:PH} {K:PK}
theorem Y8 {xs:List Int}(v:Value)(hx:Ints h .u8 v xs)(hl:xs.length≤1000)(hk:∀h' r,PH.le h h'→Ints h' .u8 r xs→K r L h'):Zb Tryz.prog 69 [v] L h K:=by
 have ox:=hx.open;obtain⟨a,ca,rfl,hna,hca,h0,hcx⟩:=ox;refine ZR Tryz.func69 rfl (rs:=[_]) rfl rfl ZY (by kernel_rfl) rfl rfl ?_;refine xx ?_
 cases ha:a.isNone with
 | true =>
  have ha':a=none:=by simpa using ha
  subst ha';have hl0:xs.length=0:=by have:=h0 rfl;omega
  have hx':xs=[]:=List.eq_nil_of_length_eq_zero hl0;subst hx';refine xx ?_;refine ZO (hk h _ (PH.le_refl h) ?_);rw[h0 rfl]at hx;exact hx
 | false =>
  refine xx ?_;refine Z6 fun b1 nb1 zb1=>?_;(try simp only[ZU]at nb1);refine xx ?_;refine Z8 (t:=36) (e:=5) (sz:=1) (bytes:=1) (z:=[.int .u8 0]) (by kernel_rfl) Zmw rfl rfl rfl rfl (by decide) [] L (some (b1,0)) 0 [] ⟨Nat.le_refl _,Nat.zero_le _⟩ rfl (Src.known hx.1) (by simp) (WC _ _) (by simp [maxLen];omega) (by omega) ?_;intro o' j1 j2 j3;simp only[Nat.zero_add,List.nil_append]at j1 j2 ⊢;refine xx ?_;exact YE (n:=xs.length) j1 (by simp) (by omega) j2 fun h' le sl=>ZO (hk h' _ le ⟨sl,hx.2⟩)
theorem GD {xs:List Int}(v:Value)(hx:Ints h .u64 v xs)(hl:xs.length≤1000)(hk:∀h' r,PH.le h h'→Ints h' .u64 r xs→K r L h'):Zb Tryz.prog 38 [v] L h K:=by
 have ox:=hx.open;obtain⟨a,ca,rfl,hna,hca,h0,hcx⟩:=ox;refine ZR Tryz.func38 rfl (rs:=[_]) rfl rfl ZY (by kernel_rfl) rfl rfl ?_;refine xx ?_
 cases ha:a.isNone with
 | true =>
  have ha':a=none:=by simpa using ha
  subst ha';have hl0:xs.length=0:=by have:=h0 rfl;omega
  have hx':xs=[]:=List.eq_nil_of_length_eq_zero hl0;subst hx';refine xx ?_;refine ZO (hk h _ (PH.le_refl h) ?_);rw[h0 rfl]at hx;exact hx
 | false =>
  refine xx ?_;refine Z6 fun b1 nb1 zb1=>?_;(try simp only[ZU]at nb1);refine xx ?_;refine Z8 (t:=25) (e:=22) (sz:=1) (bytes:=8) (z:=[.int .u64 0]) (by kernel_rfl) U3 rfl rfl rfl rfl (by decide) [] L (some (b1,0)) 0 [] ⟨Nat.le_refl _,Nat.zero_le _⟩ rfl (Src.known hx.1) (by simp) (WC _ _) (by simp [maxLen];omega) (by omega) ?_;intro o' j1 j2 j3;simp only[Nat.zero_add,List.nil_append]at j1 j2 ⊢;refine xx ?_;exact YE (n:=xs.length) j1 (by simp) (by omega) j2 fun h' le sl=>ZO (hk h' _ le ⟨sl,hx.2⟩)
theorem Yhy {xs:List Int}(v:Value)(hx:Ints h .u8 v xs)(hl:xs.length≤1000)(hk:∀o,okO o xs.length→apO o L h→(xs=[]→o=none)→K (ovs o xs.length) (oent 5 1 o (xs.map (Value.int .u8)) L) h):Zb Tryz.prog 345 [v] L h K:=by
 have ox:=hx.open;obtain⟨a,ca,rfl,hna,hca,h0,hcx⟩:=ox;refine ZR Tryz.func345 rfl (rs:=[_]) rfl rfl ZY (by kernel_rfl) rfl rfl ?_;refine xx ?_;refine Z8 (t:=321) (e:=5) (sz:=1) (bytes:=1) (z:=[.int .u8 0]) (by kernel_rfl) Zmw rfl rfl rfl rfl (by decide) [] L none 0 [] rfl rfl (Src.known hx.1) (by simp) (WC _ _) (by simp [maxLen];omega) (by omega) ?_;intro o' j1 j2 j3;simp only[Nat.zero_add,List.nil_append]at j1 j2 ⊢;refine xx ?_;exact ZO (hk o' j1 j2 fun e=>by subst e;exact j3.2 ⟨rfl,rfl⟩)
def orB (x:Int)(j:Nat):Int:=bits .or .u8 x (2 ^ j%256)
theorem Yjt (x:Int)(j:Nat)(h0:0≤x)(h1:x≤255)(hj:j<8):0≤orB x j∧orB x j≤255∧∀k,k<8→(orB x j/2 ^ k%2=1↔k=j∨x/2 ^ k%2=1):=by
 obtain⟨n,rfl⟩:=Int.eq_ofNat_of_zero_le h0;have hn:n<256:=by omega
 have key:∀j,j<8→∀n,n<256→((n ||| 2 ^ j)≤255∧∀k,k<8→((n ||| 2 ^ j)/2 ^ k%2=1↔k=j∨n/2 ^ k%2=1)):=by decide +kernel
 have h2:(2:Int) ^ j%256=((2 ^ j:Nat):Int):=by
  have:∀i,i<8→(2:Int) ^ i%256=((2 ^ i:Nat):Int):=by decide
  exact this j hj
 have h3:(2:Nat) ^ j<256:=by
  have:∀i,i<8→(2:Nat) ^ i<256:=by decide
  exact this j hj
 have e:orB n j=((n ||| 2 ^ j:Nat):Int):=by
  unfold orB;rw[h2];exact u8_or_nat n (2 ^ j) hn h3
 obtain⟨k1,k2⟩:=key j hj n hn;rw[e];refine⟨by omega,by omega,fun k hk=>?_⟩;have:=k2 k hk
 constructor
 ·intro h;have h':(n ||| 2 ^ j)/2 ^ k%2=1:=by exact_mod_cast h
  rcases this.1 h' with h|h
  ·exact Or.inl h
  ·exact Or.inr (by exact_mod_cast h)
 ·intro h;have h':(n ||| 2 ^ j)/2 ^ k%2=1:=this.2 (h.imp id fun h=>by exact_mod_cast h)
  exact_mod_cast h'
def Zep (xs:List Int)(i:Int):List Int:=xs.set (i/8).toNat (orB (at0 xs (i/8).toNat) (i%8).toNat)
theorem Zvd {xs:List Int}(hx:∀z∈xs,IntKind.u8.min≤z∧z≤IntKind.u8.max)(hb:∀i,0≤at0 xs i∧at0 xs i≤255)(i:Int):∀z∈Zep xs i,IntKind.u8.min≤z∧z≤IntKind.u8.max:=by
 intro z hz;rcases List.mem_or_eq_of_mem_set hz with h|h
 ·exact hx z h
 ·subst h;have:=Yjt (at0 xs (i/8).toNat) (i%8).toNat (hb _).1 (hb _).2 (by omega);rw[show IntKind.u8.min=0 by decide,show IntKind.u8.max=255 by decide];exact⟨this.1,this.2.1⟩
theorem Yci {xs:List Int}(v:Value)(i:Int)(hx:Ints h .u8 v xs)(hl:xs.length≤1000)(h0:0≤i)(h1:i/8<(xs.length:Int))(h2:i≤9223372036854775807)(hk:∀h' r,PH.le h h'→Ints h' .u8 r (Zep xs i)→K (.tuple #[r,.bool true]) L h'):Zb Tryz.prog 293 [v,.int .i64 i] L h K:=by
 have hb:=hx.byte;refine ZR Tryz.func293 rfl (rs:=[_,_]) rfl rfl ZY (by kernel_rfl) rfl rfl ?_;refine xx ?_;refine Yhy v hx hl fun o j1 j2 j3=>?_;refine xx ?_
 cases o with
 | none =>
  have:xs.length=0:=j1;omega
 | some p =>
  obtain⟨b,cap⟩:=p;have hbn:h b=noC:=j2.2;simp only[ovs,oent];refine Zsd _ _ _ _ h0 h1 h2 ?_;have ej:(i/8).toNat<xs.length:=by omega
  simp -dsimp -implicitDefEqProofs (disch:=first|with_reducible assumption|omega) [go_sem,WQ];refine⟨by omega,?_⟩;have eo:(⟨b,5,(xs.map (Value.int .u8)).set (i/8).toNat (Value.int .u8 (bits .or .u8 (at0 xs (i/8).toNat) (2 ^ (i%8).toNat%256))),cap⟩::L:Own)=oent 5 1 (some (b,cap)) ((Zep xs i).map (Value.int .u8)) L:=by
   simp [oent,Zep,orB,List.map_set]
  rw[eo];exact YE (n:=xs.length) j1 (by simp [Zep]) (by omega) j2 fun h' le sl=>ZO (hk h' _ le ⟨by rw[show (Zep xs i).length=xs.length by simp [Zep]];exact sl,Zvd hx.2 hb i⟩)
def bol (bl:List Bool)(i:Nat):Bool:=bl.getD i false
def Bools (h:PH)(v:Value)(bl:List Bool):Prop:=Sl h v bl.length 1 (bl.map Value.bool)
theorem Bools.open {v:Value}{bl:List Bool}(hs:Bools h v bl):∃a cap,v = .slice a bl.length cap∧bl.length≤cap∧(a=none→cap=0)∧∀j,j<bl.length→Yo h a j=some (.bool (bol bl j)):=by
 obtain⟨_,a,cap,h2,h3,h4,h4',h5,h6⟩:=hs;exact⟨a,cap,h2,h3,h5,fun j hj=>h6 j _ (by simp [bol,hj])⟩
def PackB (bl:List Bool)(m:Nat)(x:Int)(j:Nat):Prop :=
 0≤x∧x<2 ^ (8*j+8-max (8*j) m)∧∀k,k<8*j+8-max (8*j) m→(x/2 ^ k%2=1↔bol bl (max (8*j) m+k)=true)
theorem PackB.step {bl:List Bool}{m:Nat}{x:Int}{j:Nat}(hp:PackB bl (m+1) x j)(hj:m/8=j):2*x+(if bol bl m then 1 else 0)≤255∧PackB bl m (2*x+if bol bl m then 1 else 0) j:=by
 obtain⟨h0,h1,h2⟩:=hp;have e1:max (8*j) (m+1)=m+1:=by omega
 have e2:max (8*j) m=m:=by omega
 obtain⟨w,hw⟩:∃w,8*j+8-(m+1)=w:=⟨_,rfl⟩
 have hw2:8*j+8-m=w+1:=by omega
 have hw3:w≤7:=by omega
 rw[e1,hw]at h1 h2;have hb:(0:Int)≤(if bol bl m then 1 else 0)∧(if bol bl m then (1:Int) else 0)≤1:=by split<;>omega
 have hp:(2:Int) ^ (w+1)=2*2 ^ w:=by rw[Int.pow_succ,Int.mul_comm]
 have hp7:(2:Int) ^ w≤128:=by
  have:∀w,w≤7→(2:Int) ^ w≤128:=by decide
  exact this w hw3
 have hc:(if bol bl m then (1:Int) else 0)=1↔bol bl m=true:=by split<;>rename_i hc<;>simp [hc]
 generalize (if bol bl m then (1:Int) else 0)=c at hb hc ⊢
 refine⟨by omega,by omega,?_,?_⟩
 ·rw[e2,hw2,hp];omega
 ·intro k hk;rw[e2,hw2]at hk;rw[e2]
  cases k with
  | zero =>
   simp only[Int.pow_zero,Int.ediv_one,Nat.add_zero];rw[← hc];omega
  | succ k =>
   have e3:(2:Int) ^ (k+1)=2*2 ^ k:=by rw[Int.pow_succ,Int.mul_comm]
   have e:(2*x+c)/2 ^ (k+1)=x/2 ^ k:=by
    rw[e3,← Int.ediv_ediv_of_nonneg (show (0:Int)≤2 by decide),show (2*x+c)/2=x by omega]
   rw[e,h2 k (by omega),show m+1+k=m+(k+1) by omega]
theorem idxB {bl:List Bool}{a:Option Addr}(hc:∀j,j<bl.length→Yo h a j=some (.bool (bol bl j))):∀j,j<bl.length→Yo h a j=some ((fun j=>Value.bool (bol bl j)) j):=hc
end Go.X
