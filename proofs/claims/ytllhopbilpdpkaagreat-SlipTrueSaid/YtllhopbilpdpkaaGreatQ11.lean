/- Lemmas and contracts. Conditions: as each says. -/
import Derived.Laws.Externs
import Derived.Test.YtllhopbilpdpkaaGreatQ07
import Derived.Test.YtllhopbilpdpkaaGreatQ09
set_option linter.unusedVariables false
set_option linter.unusedSimpArgs false
set_option maxHeartbeats 12800000
set_option maxRecDepth 20000
namespace Go.X
open Go.RowKit Go.Proofs Go.Bl Go.Proofs.Tryz
variable {L:Own} {h:PH} {K:PK}
def Yy (zs:List Int):Nat→Int
 | 0=>0
 | k+1=>Yy zs k+at0 zs k
def tot (zs:List Int):Int:=Yy zs zs.length
theorem JK {zs:List Int}(h0:∀i,0≤at0 zs i):∀ {k m:Nat},k≤m→Yy zs k≤Yy zs m:=fun {k m} hkm=>by
  induction m with
  | zero => have : k = 0 := by omega
            subst this;exact Int.le_refl _
  | succ m ih =>
    by_cases e:k=m+1
    · subst e;exact Int.le_refl _
    · have:=ih (by omega);have:=h0 m;simp only[Yy];omega
theorem VA {zs:List Int}(h0:∀i,0≤at0 zs i)(k:Nat):0≤Yy zs k:=by
 have:=JK h0 (Nat.zero_le k)
 simpa [Yy] using this
def Zey (n:Int):Value:=if n≤18446744073709551615 then .tuple #[.int .u64 n,.int .i64 0] else .tuple #[.int .u64 0,.int .i64 10]
theorem Yi {n:Int}(c:n≤18446744073709551615):Zey n = .tuple #[.int .u64 n,.int .i64 0]:=by simp [Zey,c]
theorem YD {n:Int}(c:¬n≤18446744073709551615):Zey n = .tuple #[.int .u64 0,.int .i64 10]:=by simp [Zey,c]
theorem Zsl (x y:Int)(hx:0≤x)(hy:0≤y)(hk:K (.tuple #[.int .u64 ((x+y)%18446744073709551616),.int .u64 ((x+y)/18446744073709551616)]) L h):Zc prog 288 [.int .u64 x,.int .u64 y,.int .u64 0] L h K :=
 Zc.extern (fun W=>by
  show (callFunc 288 #[.int .u64 x,.int .u64 y,.int .u64 0]).run prog W=_;rw[run_callFunc_extern func288 (by kernel_rfl) (by kernel_rfl) (by kernel_rfl) (e:=add64Entry) (by kernel_rfl),run_add64 x y 0 hx hy (by decide) (by decide),Int.add_zero]
  rfl) hk
theorem WI (x y:Int)(hx:0≤x∧x≤18446744073709551615)(hy:0≤y∧y≤18446744073709551615)(hk:K (Zey (x+y)) L h):Zc prog 178 [.int .u64 x,.int .u64 y] L h K:=by
 refine ZS func178 rfl (rs:=[_,_]) rfl rfl ZW (by kernel_rfl) rfl rfl ?_;refine xx ?_;refine Zsl x y hx.1 hy.1 ?_;by_cases c:x+y≤18446744073709551615
 ·have e1:(x+y)%18446744073709551616=x+y:=by omega
  have e2:(x+y)/18446744073709551616=0:=by omega
  rw[Yi c]at hk;rw[e1,e2];refine xx ?_;exact ZO hk
 ·have e2:(x+y)/18446744073709551616=1:=by omega
  rw[YD c]at hk;rw[e2];refine xx ?_;exact ZO hk
theorem Y1 {zs:List Int}(v:Value)(hz:Ints h .u64 v zs)(hk:K (Zey (tot zs)) L h):Zc prog 153 [v] L h K:=by
 have hw:=hz.word;have h0:∀i,0≤at0 zs i:=fun i=>(hw i).1;obtain⟨a,c,rfl,hn,hc,_,hcs⟩:=hz.open;refine ZS func153 rfl (rs:=[_,_]) rfl rfl ZW (by kernel_rfl) rfl rfl ?_;refine xx ?_;refine WP (0:Nat) (fun k=>k≤zs.length∧Yy zs k≤18446744073709551615) (fun k=>[(11,.int .i64 k),(10,.int .i64 zs.length),(9,.slice a zs.length c),(4,.int .u64 (Yy zs k))]) (fun k=>zs.length-k) ?_ ?_ ?_
 ·exact⟨Nat.zero_le _,by simp [Yy]⟩
 ·simp [Ent,List.lookup,Wo,Yy]
 rintro k ⟨k1,k2⟩;by_cases c1:k<zs.length
 ·have hs:=VA h0 k;simp -dsimp -implicitDefEqProofs (disch:=first|with_reducible assumption|omega) [go_sem,idx hcs];refine WI _ _ ⟨hs,k2⟩ (hw k) ?_;by_cases c2:Yy zs k+at0 zs k≤18446744073709551615
  ·rw[Yi c2];refine xx ?_;exact⟨k+1,⟨by omega,c2⟩,by omega,by simp [Ent,List.lookup,Yy],Za.refl _ _⟩
  ·have:=JK h0 (show k+1≤zs.length by omega);rw[YD (show ¬tot zs≤18446744073709551615 by simp only[Yy,tot]at *;omega)]at hk;rw[YD c2];refine xx ?_;exact ZO hk
 ·have hkl:k=zs.length:=by omega
  subst hkl;rw[Yi (n:=tot zs) k2]at hk;refine xx ?_;exact ZO hk
theorem Yaw {zs:List Int}(v:Value)(hz:Ints h .u64 v zs)(hk:K (Zey (tot zs)) L h):Zc prog 286 [v] L h K:=by
 refine ZS func286 rfl (rs:=[_,_]) rfl rfl ZW (by kernel_rfl) rfl rfl ?_;refine xx ?_;refine Y1 v hz ?_;by_cases c:tot zs≤18446744073709551615
 ·rw[Yi c]at hk ⊢;refine xx ?_;exact ZO hk
 ·rw[YD c]at hk ⊢;refine xx ?_;exact ZO hk
theorem G9 {zs:List Int}(most:Int)(v:Value)(hz:Ints h .u64 v zs)(hm:most≤18446744073709551615)(hk:K (.bool (decide (tot zs≤most))) L h):Zc prog 176 [.int .u64 most,v] L h K:=by
 refine ZS func176 rfl (rs:=[_]) rfl rfl ZW (by kernel_rfl) rfl rfl ?_;refine xx ?_;refine Y1 v hz ?_;by_cases c:tot zs≤18446744073709551615
 ·rw[Yi c];refine xx ?_;exact ZO hk
 ·rw[decide_eq_false (show ¬tot zs≤most by omega)]at hk;rw[YD c];refine xx ?_;exact ZO hk
theorem Zhi {zs:List Int}(v:Value)(hz:Ints h .i64 v zs)(hk:K (.bool (zs.all fun z=>decide (z=0))) L h):Zc prog 179 [v] L h K:=by
 obtain⟨a,c,rfl,hn,hc,_,hcs⟩:=hz.open;refine ZS func179 rfl (rs:=[_]) rfl rfl ZW (by kernel_rfl) rfl rfl ?_;refine xx ?_;refine WP (0:Nat) (fun k=>k≤zs.length∧∀j,j<k→at0 zs j=0) (fun k=>[(7,.int .i64 k),(6,.int .i64 zs.length),(5,.slice a zs.length c)]) (fun k=>zs.length-k) ?_ ?_ ?_
 ·exact⟨Nat.zero_le _,fun j hj=>by omega⟩
 ·simp [Ent,List.lookup,Wo]
 rintro k ⟨k1,k2⟩;by_cases c1:k<zs.length
 ·by_cases c2:at0 zs k=0
  ·simp -dsimp -implicitDefEqProofs (disch:=first|with_reducible assumption|omega) [go_sem,idx hcs];refine⟨k+1,⟨by omega,fun j hj=>?_⟩,by omega,by simp [Ent,List.lookup],Za.refl _ _⟩;by_cases e:j=k
   ·subst e;exact c2
   ·exact k2 j (by omega)
  ·have:(zs.all fun z=>decide (z=0))=false:=by
    rw[List.all_eq_false];exact⟨zs[k],List.getElem_mem c1,by simp [Yf,c2]⟩
   rw[this]at hk;simp -dsimp -implicitDefEqProofs (disch:=first|with_reducible assumption|omega) [go_sem,idx hcs];exact ZO hk
 ·have:(zs.all fun z=>decide (z=0))=true:=by
   rw[List.all_eq_true];intro x hx;obtain⟨j,hj,rfl⟩:=List.mem_iff_getElem.1 hx;simp [Yf,k2 j (by omega)]
  rw[this]at hk;refine xx ?_;exact ZO hk
def Gh {α:Type}(f:α→Int)(l:List α)(k:Nat):List Value:=((l.take k).map f).map (.int .u64)
theorem VE {α:Type}{f:α→Int}{l:List α}{k:Nat}(hk:k≤l.length):(Gh f l k).length=k*1:=by simp [Gh,hk]
theorem JD {α:Type}{f:α→Int}{l:List α}{k:Nat}(z:α)(hk:k<l.length):Gh f l (k+1)=Gh f l k++[.int .u64 (f (gr z l k))]:=by
 rw[Z8 hk,Gh,Gh,List.take_succ_eq_append_getElem hk,List.map_append,List.map_append];rfl
theorem Zhu {α:Type}{f:α→Int}{l:List α}{h:PH}{v:Value}(sl:Sl h v l.length 1 (Gh f l l.length))(hm:∀x∈l,0≤f x∧f x≤18446744073709551615):Ints h .u64 v (l.map f):=by
 refine⟨?_,fun z hz=>?_⟩
 ·simpa [Gh] using sl
 ·obtain⟨x,hx,rfl⟩:=List.mem_map.1 hz;exact hm x hx
theorem Zhf {l:List Zb}(v:Value)(hd0:Zh Yv 6 h v l)(hm:∀x∈l,Zf x)(hn:l.length≤100000)(hk:∀h' r,PH.le h h'→Ints h' .u64 r (l.map Zb.bal)→K r L h'):Zc prog 285 [v] L h K:=by
 obtain⟨a,c,rfl,hc,hl,_,hd⟩:=hd0.open;refine ZS func285 rfl (rs:=[_]) rfl rfl ZW (by kernel_rfl) rfl rfl ?_;refine xx ?_;refine YO (γ:=Nat×Option (Nat×Nat)) (0,none) (fun s=>s.1≤l.length∧okO s.2 s.1∧apO s.2 L h) (fun s=>[(8,.int .i64 s.1),(7,.int .i64 l.length),(6,.slice a l.length c),(3,ovs s.2 s.1)])
  (fun s=>oent 22 1 s.2 (Gh Zb.bal l s.1) L) (fun _=>h) (fun s=>l.length-s.1) ?_ ?_ ?_ ?_
 ·exact⟨Nat.zero_le _,rfl,trivial⟩
 ·simp [Ent,List.lookup,Wo,ovs]
 ·exact Za.refl _ _
 rintro⟨k,o⟩ ⟨k1,k2,k3⟩;simp only at k1 k2 k3 ⊢;by_cases c1:k<l.length
 ·simp -dsimp -implicitDefEqProofs (disch:=first|with_reducible assumption|omega) [go_sem,↓Uw ZQ (by decide) hd,Yv];refine Z2 fun b1 nb1 zb1=>?_;(try simp only[ZT]at nb1);simp -dsimp -implicitDefEqProofs (disch:=first|with_reducible assumption|omega) [go_sem,Yv];refine Z2 fun b2 nb2 zb2=>?_;(try simp only[ZT]at nb2);simp -dsimp -implicitDefEqProofs (disch:=first|with_reducible assumption|omega) [go_sem,Yv];refine Z4 (t:=25) (e:=22) (sz:=1) (bytes:=8) (by kernel_rfl) VB rfl rfl rfl rfl (by decide) [_,_] L o k (Gh Zb.bal l k) k2 (VE k1) (Src.own List.mem_cons_self) (m:=1) (news:=[.int .u64 (gr ZQ l k).bal]) rfl (by intro u hu;simp only[List.mem_singleton]at hu;subst hu;rfl) (by simp [maxLen];omega) (by omega) ?_;intro o' j1 j2 j3;refine xx ?_;refine⟨k+1,o',⟨by omega,j1,ZY (ZY j2)⟩,by omega,by simp [Ent,List.lookup],?_⟩;rw[JD ZQ c1];exact(Za.tail _ _ _).trans (Za.tail _ _ _)
 ·have hkl:k=l.length:=by omega
  subst hkl;refine xx ?_;exact Wh (n:=l.length) k2 (VE (Nat.le_refl _)) (by omega) k3 fun h' le sl=>ZO (hk h' _ le (Zhu sl fun x hx=>(hm x hx).u _ (by simp)))
theorem Zqa (d:Zo)(hk:K (.int .u64 d.amt) L h):Zc prog 348 [.agg #[.int .i64 d.acct,.int .i64 d.mem,.int .u64 d.amt,.bool d.new]] L h K:=by
 refine ZS func348 rfl (rs:=[_]) rfl rfl ZW (by kernel_rfl) rfl rfl ?_;refine xx ?_;refine Z2 fun b1 nb1 zb1=>?_;(try simp only[ZT]at nb1);refine xx ?_;exact ZP (ZO hk)
theorem Znx (d:Zg)(hk:K (.int .u64 d.amt) L h):Zc prog 350 [.agg #[.int .i64 d.acct,.int .i64 d.at',.int .u64 d.amt]] L h K:=by
 refine ZS func350 rfl (rs:=[_]) rfl rfl ZW (by kernel_rfl) rfl rfl ?_;refine xx ?_;refine Z2 fun b1 nb1 zb1=>?_;(try simp only[ZT]at nb1);refine xx ?_;exact ZP (ZO hk)
theorem Zbk {l:List Zo}(v:Value)(hd0:Zh Zaf 4 h v l)(hn:l.length≤100000)(hk:∀o,okO o l.length→apO o L h→K (ovs o l.length) (oent 22 1 o (Gh Zo.amt l l.length) L) h):Zc prog 347 [v,.func (.func 348) #[] #[]] L h K:=by
 obtain⟨a,c,rfl,hc,hl,_,hd⟩:=hd0.open;refine ZS func347 rfl (rs:=[_]) rfl rfl ZW (by kernel_rfl) rfl rfl ?_;refine xx ?_;refine YO (γ:=Nat×Option (Nat×Nat)) (0,none) (fun s=>s.1≤l.length∧okO s.2 s.1∧apO s.2 L h) (fun s=>[(10,.int .i64 s.1),(9,.int .i64 l.length),(8,.slice a l.length c),(5,ovs s.2 s.1),(1,.func (.func 348) #[] #[])])
  (fun s=>oent 22 1 s.2 (Gh Zo.amt l s.1) L) (fun _=>h) (fun s=>l.length-s.1) ?_ ?_ ?_ ?_
 ·exact⟨Nat.zero_le _,rfl,trivial⟩
 ·simp [Ent,List.lookup,Wo,ovs]
 ·exact Za.refl _ _
 rintro⟨k,o⟩ ⟨k1,k2,k3⟩;simp only at k1 k2 k3 ⊢;by_cases c1:k<l.length
 ·simp -dsimp -implicitDefEqProofs (disch:=first|with_reducible assumption|omega) [go_sem,↓Uw YT (by decide) hd,Zaf];refine Z2 fun b1 nb1 zb1=>?_;(try simp only[ZT]at nb1);simp -dsimp -implicitDefEqProofs (disch:=first|with_reducible assumption|omega) [go_sem,Zaf];refine Zqa (gr YT l k) ?_;refine xx ?_;refine Z2 fun b2 nb2 zb2=>?_;(try simp only[ZT]at nb2);refine xx ?_;refine Z4 (t:=25) (e:=22) (sz:=1) (bytes:=8) (by kernel_rfl) VB rfl rfl rfl rfl (by decide) [_,_] L o k (Gh Zo.amt l k) k2 (VE k1) (Src.own List.mem_cons_self) (m:=1) (news:=[.int .u64 (gr YT l k).amt]) rfl (by intro u hu;simp only[List.mem_singleton]at hu;subst hu;rfl) (by simp [maxLen];omega) (by omega) ?_;intro o' j1 j2 j3;refine xx ?_;refine⟨k+1,o',⟨by omega,j1,ZY (ZY j2)⟩,by omega,by simp [Ent,List.lookup],?_⟩;rw[JD YT c1];exact(Za.tail _ _ _).trans (Za.tail _ _ _)
 ·have hkl:k=l.length:=by omega
  subst hkl;refine xx ?_;exact ZO (hk o k2 k3)
theorem Zbe {l:List Zg}(v:Value)(hd0:Zh Yz 3 h v l)(hn:l.length≤100000)(hk:∀o,okO o l.length→apO o L h→K (ovs o l.length) (oent 22 1 o (Gh Zg.amt l l.length) L) h):Zc prog 349 [v,.func (.func 350) #[] #[]] L h K:=by
 obtain⟨a,c,rfl,hc,hl,_,hd⟩:=hd0.open;refine ZS func349 rfl (rs:=[_]) rfl rfl ZW (by kernel_rfl) rfl rfl ?_;refine xx ?_;refine YO (γ:=Nat×Option (Nat×Nat)) (0,none) (fun s=>s.1≤l.length∧okO s.2 s.1∧apO s.2 L h) (fun s=>[(10,.int .i64 s.1),(9,.int .i64 l.length),(8,.slice a l.length c),(5,ovs s.2 s.1),(1,.func (.func 350) #[] #[])])
  (fun s=>oent 22 1 s.2 (Gh Zg.amt l s.1) L) (fun _=>h) (fun s=>l.length-s.1) ?_ ?_ ?_ ?_
 ·exact⟨Nat.zero_le _,rfl,trivial⟩
 ·simp [Ent,List.lookup,Wo,ovs]
 ·exact Za.refl _ _
 rintro⟨k,o⟩ ⟨k1,k2,k3⟩;simp only at k1 k2 k3 ⊢;by_cases c1:k<l.length
 ·simp -dsimp -implicitDefEqProofs (disch:=first|with_reducible assumption|omega) [go_sem,↓Uw ZZ (by decide) hd,Yz];refine Z2 fun b1 nb1 zb1=>?_;(try simp only[ZT]at nb1);simp -dsimp -implicitDefEqProofs (disch:=first|with_reducible assumption|omega) [go_sem,Yz];refine Znx (gr ZZ l k) ?_;refine xx ?_;refine Z2 fun b2 nb2 zb2=>?_;(try simp only[ZT]at nb2);refine xx ?_;refine Z4 (t:=25) (e:=22) (sz:=1) (bytes:=8) (by kernel_rfl) VB rfl rfl rfl rfl (by decide) [_,_] L o k (Gh Zg.amt l k) k2 (VE k1) (Src.own List.mem_cons_self) (m:=1) (news:=[.int .u64 (gr ZZ l k).amt]) rfl (by intro u hu;simp only[List.mem_singleton]at hu;subst hu;rfl) (by simp [maxLen];omega) (by omega) ?_;intro o' j1 j2 j3;refine xx ?_;refine⟨k+1,o',⟨by omega,j1,ZY (ZY j2)⟩,by omega,by simp [Ent,List.lookup],?_⟩;rw[JD ZZ c1];exact(Za.tail _ _ _).trans (Za.tail _ _ _)
 ·have hkl:k=l.length:=by omega
  subst hkl;refine xx ?_;exact ZO (hk o k2 k3)
theorem Zc.fin {f:FuncId}{args:List Value}{L:Own}{h:PH}{K:PK}(hs:Zc prog f args L h fun v L' h'=>fin K v L' h'):Zc prog f args L h K :=
 ⟨trivial,fun W hg=>(hs.2 W hg).mono fun e W' ⟨r,L',h',he,⟨L2,h2,hd,hk⟩,st⟩=>by
  obtain⟨g,f⟩:=hd W' st.1;refine⟨r,L2,h2,he,hk,g,st.2.1,fun e he=>?_⟩;obtain⟨e',he',hb⟩:=List.mem_map.1 (f e he)
  rw[← hb];exact st.2.2 e' he'⟩
theorem Wb {v:Value}{h':PH}(le:PH.le h h')(hk:fin K v L h):fin K v L h':=by
 obtain⟨L2,h2,hd,hk⟩:=hk;exact⟨L2,h2,(Za.forget le).trans hd,hk⟩
theorem Zkm:tot []=0:=rfl
theorem Zmh {l:List Zo}{m:List Zg}(v u:Value)(hv:Zh Zaf 4 h v l)(hu:Zh Yz 3 h u m)(hl:∀x∈l,ZL x)(hm:∀x∈m,Zs x)(nl:l.length≤100000)(nm:m.length≤100000)
  (hk:K (Zey (tot (l.map Zo.amt++m.map Zg.amt))) L h):Zc prog 287 [v,u] L h K:=by
 have ov:=hv.open;obtain⟨va,vc,rfl,_⟩:=ov;have ou:=hu.open;obtain⟨ua,uc,rfl,_⟩:=ou;refine ZS func287 rfl (rs:=[_,_]) rfl rfl ZW (by kernel_rfl) rfl rfl ?_;refine xx ?_;refine Zbk _ hv nl fun o k1 k2=>?_;refine xx ?_;refine Zbe _ hu nm fun o2 j1 j2=>?_;refine xx ?_;have c1:=VE (f:=Zo.amt) (l:=l) (Nat.le_refl _);have c2:=VE (f:=Zg.amt) (l:=m) (Nat.le_refl _);have conv:∀(h':PH) (w:Value),Sl h' w (l.length+m.length) 1 (Gh Zo.amt l l.length++Gh Zg.amt m m.length)→Ints h' .u64 w (l.map Zo.amt++m.map Zg.amt):=fun h' w sl=>by
  refine⟨?_,fun z hz=>?_⟩
  ·simpa [Gh] using sl
  ·rcases List.mem_append.1 hz with hz|hz
   ·obtain⟨x,hx,rfl⟩:=List.mem_map.1 hz;exact(hl x hx).a
   ·obtain⟨x,hx,rfl⟩:=List.mem_map.1 hz;exact(hm x hx).a
 cases o2 with
 | none =>
  have hm0:m.length=0:=j1;have hm0':m=[]:=List.eq_nil_of_length_eq_zero hm0;subst hm0';have hk:K (Zey (tot (l.map Zo.amt))) L h:=by simpa using hk
  simp only[oent,ovs];refine Z4 (t:=25) (e:=22) (sz:=1) (bytes:=8) (by kernel_rfl) VB rfl rfl rfl rfl (by decide) [] L o l.length (Gh Zo.amt l l.length) k1 c1 (Src.known (n:=0) (sz:=1) (cs:=[]) (Uf h .u64).1) (m:=0) (news:=[]) rfl (by simp) (by simp [maxLen];omega) (by omega) ?_;intro o' i1 i2 i3;refine xx ?_;refine U1 (n:=l.length) i1 (by simpa using c1) (by omega) i2 fun h' le sl=>?_;refine Y1 (zs:=l.map Zo.amt) _ (by simpa using conv h' _ (by simpa [Gh] using sl)) ?_;by_cases c:tot (l.map Zo.amt)≤18446744073709551615
  ·rw[Yi c]at hk ⊢;refine xx ?_;exact Wb le (ZO hk)
  ·rw[YD c]at hk ⊢;refine xx ?_;exact Wb le (ZO hk)
 | some p =>
  obtain⟨b2,cap2⟩:=p;simp only[oent,ovs];refine Z4 (t:=25) (e:=22) (sz:=1) (bytes:=8) (by kernel_rfl) VB rfl rfl rfl rfl (by decide) [_] L o l.length (Gh Zo.amt l l.length) k1 c1 (Src.own List.mem_cons_self) (m:=m.length) (news:=Gh Zg.amt m m.length) c2 (by intro u hu;simp only[Gh,List.mem_map]at hu;obtain⟨_,_,rfl⟩:=hu;rfl) (by simp [maxLen];omega) (by omega) ?_;intro o' i1 i2 i3;refine xx ?_;refine Zse (U1 (n:=l.length+m.length) i1 (by rw[List.length_append,c1,c2];omega) (by omega) (ZY i2) fun h' le sl=>?_);refine Y1 _ (conv h' _ sl) ?_;by_cases c:tot (l.map Zo.amt++m.map Zg.amt)≤18446744073709551615
  ·rw[Yi c]at hk ⊢;refine xx ?_;exact Wb le (ZO hk)
  ·rw[YD c]at hk ⊢;refine xx ?_;exact Wb le (ZO hk)
def Zyf (s:Zd):Int:=tot (s.members.map Zb.bal)
def Zyl (s:Zd):Int:=tot s.purses
def Zbp (s:Zd):Int:=tot (s.pool.map Zo.amt)
def Zyo (s:Zd):Int:=tot (s.dues.map Zg.amt)
def Zhp (n:Int):Int:=if n≤18446744073709551615 then 0 else 10
theorem Ui (n:Int):Zey n = .tuple #[.int .u64 (if n≤18446744073709551615 then n else 0),.int .i64 (Zhp n)]:=by
 unfold Zey Zhp;split<;>rfl
structure ZB (s:Zd):Prop where
 p:s.purses.length≤100000
 m:s.members.length≤100000
 e:s.entry.length≤100000
 x:s.exit.length≤100000
 o:s.pool.length≤100000
 d:s.dues.length≤100000
 t:s.motions.length≤100000
 r:s.ring.length≤100000
theorem Zzn (a b c d e:Int):tot [a,b,c,d,e]=a+b+c+d+e:=by simp [tot,Yy,at0]
theorem Zss (a b:Int):tot [a,b]=a+b:=by simp [tot,Yy,at0]
theorem Yu {zs:List Int}(h0:∀i,0≤at0 zs i):0≤tot zs:=VA h0 _
def Uy (s:Zd):Bool:=decide (Zyf s≤18446744073709551615)&&decide (Zyl s≤18446744073709551615)&&decide (Zbp s≤18446744073709551615)&&decide (Zyo s≤18446744073709551615)
def Zgz (s:Zd):Value:=if Uy s then .tuple #[.agg #[.int .u64 (Zyf s),.int .u64 (Zyl s),.int .u64 (Zbp s),.int .u64 (Zyo s),.int .u64 s.treas],.int .i64 0] else .tuple #[.agg #[.int .u64 0,.int .u64 0,.int .u64 0,.int .u64 0,.int .u64 0],.int .i64 10]
theorem Ycj (a b c d:Int):([Zhp a,Zhp b,Zhp c,Zhp d].all fun z=>decide (z=0))=(decide (a≤18446744073709551615)&&decide (b≤18446744073709551615)&&decide (c≤18446744073709551615)&&decide (d≤18446744073709551615)):=by
 have e:∀n,decide (Zhp n=0)=decide (n≤18446744073709551615):=fun n=>by unfold Zhp;split<;>simp [*]
 simp only[List.all_cons,List.all_nil,e,Bool.and_true,Bool.and_assoc]
theorem Zsb {s:Zd}(v:SV)(hs:Zr h v s)(few:ZB s)(hk:K (Zgz s) L h):Zc prog 175 [stV s v] L h K:=by
 obtain⟨pa,pc,hp,_⟩:=hs.p.open;obtain⟨ma,mc,hm,_⟩:=hs.m.open;obtain⟨oa,oc,ho,_⟩:=hs.o.open;obtain⟨da,dc,hd,_⟩:=hs.d.open;refine ZS func175 rfl (rs:=[_,_]) rfl rfl ZW (by kernel_rfl) rfl rfl ?_;refine xx ?_;refine Z2 fun b1 nb1 zb1=>?_;(try simp only[ZT]at nb1);refine xx ?_;refine Z2 fun b2 nb2 zb2=>?_;(try simp only[ZT]at nb2);refine xx ?_;refine Zc.apn (Zhf _ hs.m hs.mo few.m fun h1 r1 le1 i1 ap nd=>?_);obtain⟨ap1,ap2,ap3⟩:=ap;refine xx ?_;refine Y1 _ i1 ?_;rw[Ui];refine xx ?_;refine Yaw _ (hs.p.up le1) ?_;rw[Ui];refine xx ?_;refine Zmh _ _ (hs.o.up le1) (Zh.nil Yr h1) hs.oo (fun x hx=>by cases hx) few.o (by simp) ?_;simp only[List.map_nil,List.append_nil];rw[Ui];refine xx ?_;refine Zmh _ _ (Zh.nil V1 h1) (hs.d.up le1) (fun x hx=>by cases hx) hs.dd (by simp) few.d ?_;simp only[List.map_nil,List.nil_append];rw[Ui];refine xx ?_;refine Z2 fun b3 nb3 zb3=>?_;(try simp only[ZT]at nb3);refine xx ?_;refine Wf (sz:=1) (n:=4) (cap:=4) [] ⟨Nat.le_refl _,by decide⟩ rfl (by decide) zb3 fun h2 le2 s2 f2=>?_;have q1:h2 b2=noC:=by rw[f2 _ nb3.1];exact ap1
 have q2:h2 b1=noC:=by rw[f2 _ nb3.2.1];exact ap2
 refine Zhi (zs:=[Zhp (Zyf s),Zhp (Zyl s),Zhp (Zbp s),Zhp (Zyo s)]) _ ⟨s2,fun z hz=>?_⟩ ?_
 ·simp only[List.mem_cons,List.not_mem_nil,or_false]at hz;rcases hz with rfl|rfl|rfl|rfl<;>(unfold Zhp;split<;>decide)
 rw[Ycj]
 cases hB:Uy s with
 | false =>
  rw[Zgz,if_neg (by rw[hB];exact Bool.false_ne_true)]at hk;rw[Uy]at hB;rw[hB];simp only[List.nil_append];refine xx ?_;exact ZP (ZP (Wb (le1.trans le2) (ZO hk)))
 | true =>
  rw[Zgz,if_pos hB]at hk;rw[Uy]at hB;rw[hB];simp only[Uy,Bool.and_eq_true,decide_eq_true_eq]at hB;obtain⟨⟨⟨e1,e2⟩,e3⟩,e4⟩:=hB;simp only[Zyf,Zyl,Zbp,Zyo]at e1 e2 e3 e4 hk;simp only[if_pos e1,if_pos e2,if_pos e3,if_pos e4];simp only[List.nil_append];refine xx ?_;exact ZP (ZP (Wb (le1.trans le2) (ZO hk)))
theorem Zxv (a b c d e:Int)(ha:0≤a∧a≤18446744073709551615)(hb:0≤b∧b≤18446744073709551615)(hc:0≤c∧c≤18446744073709551615)(hd:0≤d∧d≤18446744073709551615)(he:0≤e∧e≤18446744073709551615)
  (hk:K (Zey (a+b+c+d+e)) L h):Zc prog 177 [.agg #[.int .u64 a,.int .u64 b,.int .u64 c,.int .u64 d,.int .u64 e]] L h K:=by
 rw[Ui]at hk;refine ZS func177 rfl (rs:=[_,_]) rfl rfl ZW (by kernel_rfl) rfl rfl ?_;refine xx ?_;refine Z2 fun b1 nb1 zb1=>?_;(try simp only[ZT]at nb1);refine xx ?_;refine Z2 fun b2 nb2 zb2=>?_;(try simp only[ZT]at nb2);refine xx ?_;refine Wf (sz:=1) (n:=5) (cap:=5) [] ⟨Nat.le_refl _,by decide⟩ rfl (by decide) zb2 fun h2 le2 s2 f2=>?_;refine Y1 (zs:=[a,b,c,d,e]) _ ⟨s2,fun z hz=>?_⟩ ?_
 ·simp only[List.mem_cons,List.not_mem_nil,or_false]at hz;rcases hz with rfl|rfl|rfl|rfl|rfl<;>assumption
 rw[Zzn,Ui];simp only[List.nil_append];refine xx ?_;exact ZP (Wb le2 (ZO hk))
def Zrn (s:Zd):Int:=Zyf s+Zyl s+Zbp s+Zyo s+s.treas
def WY (s:Zd):Bool:=decide (s.gen+s.mint≤s.most)&&decide (s.most≤4611686018427387904)&&decide (Zrn s+s.burn=s.gen+s.mint)
theorem V2 {α:Type}(f:α→Int)(l:List α)(hm:∀x∈l,0≤f x)(i:Nat):0≤at0 (l.map f) i:=by
 unfold at0;by_cases hi:i<l.length
 ·rw[List.getD_eq_getElem?_getD,List.getElem?_map,List.getElem?_eq_getElem hi];exact hm _ (List.getElem_mem hi)
 ·rw[List.getD_eq_getElem?_getD,List.getElem?_map,List.getElem?_eq_none (by omega)];exact Int.le_refl _
theorem Zr.parts {v:SV}{s:Zd}(hs:Zr h v s):0≤Zyf s∧0≤Zyl s∧0≤Zbp s∧0≤Zyo s :=
 ⟨Yu fun i=>V2 _ _ (fun x hx=>((hs.mo x hx).u _ (by simp)).1) i,Yu fun i=>(hs.p.word i).1,Yu fun i=>V2 _ _ (fun x hx=>(hs.oo x hx).a.1) i,Yu fun i=>V2 _ _ (fun x hx=>(hs.dd x hx).a.1) i⟩
theorem Zwu {s:Zd}(v:SV)(hs:Zr h v s)(few:ZB s)(hk:K (.bool (WY s)) L h):Zc prog 65 [stV s v] L h K:=by
 obtain⟨p1,p2,p3,p4⟩:=hs.parts;have um:0≤s.most∧s.most≤18446744073709551615:=hs.ok.u _ (by simp);have ug:0≤s.gen∧s.gen≤18446744073709551615:=hs.ok.u _ (by simp);have ui:0≤s.mint∧s.mint≤18446744073709551615:=hs.ok.u _ (by simp);have ub:0≤s.burn∧s.burn≤18446744073709551615:=hs.ok.u _ (by simp);have ut:0≤s.treas∧s.treas≤18446744073709551615:=hs.ok.u _ (by simp);obtain⟨pa,pc,hp,_⟩:=hs.p.open;refine ZS func65 rfl (rs:=[_]) rfl rfl ZW (by kernel_rfl) rfl rfl ?_;refine xx ?_;refine Z2 fun b1 nb1 zb1=>?_;(try simp only[ZT]at nb1);refine xx ?_;refine Zsb v hs few ?_;have hS:Zrn s=Zyf s+Zyl s+Zbp s+Zyo s+s.treas:=rfl;by_cases c1:Uy s=true
 ·rw[Zgz,if_pos c1];simp only[Uy,Bool.and_eq_true,decide_eq_true_eq]at c1;obtain⟨⟨⟨e1,e2⟩,e3⟩,e4⟩:=c1;refine xx ?_;refine Z2 fun b2 nb2 zb2=>?_;(try simp only[ZT]at nb2);refine xx ?_;by_cases c2:4611686018427387904<s.most
  ·rw[show WY s=false by simp only[WY];rw[decide_eq_false (show ¬s.most≤4611686018427387904 by omega)];simp]at hk;refine xx ?_;exact ZP (ZP (ZO hk))
  ·refine xx ?_;refine Z2 fun b3 nb3 zb3=>?_;(try simp only[ZT]at nb3);refine xx ?_;refine Wf (sz:=1) (n:=2) (cap:=2) [] ⟨Nat.le_refl _,by decide⟩ rfl (by decide) zb3 fun h2 le2 s2 f2=>?_;have q1:h2 b2=noC:=by rw[f2 _ nb3.1];exact zb2
   have q2:h2 b1=noC:=by rw[f2 _ nb3.2.1];exact zb1
   refine G9 (zs:=[s.gen,s.mint]) s.most _ ⟨s2,fun z hz=>?_⟩ um.2 ?_
   ·simp only[List.mem_cons,List.not_mem_nil,or_false]at hz;rcases hz with rfl|rfl<;>assumption
   rw[Zss];simp only[List.nil_append];by_cases c3:s.gen+s.mint≤s.most
   ·rw[decide_eq_true c3];refine xx ?_;refine Zxv _ _ _ _ _ ⟨p1,e1⟩ ⟨p2,e2⟩ ⟨p3,e3⟩ ⟨p4,e4⟩ ut ?_;rw[← hS];by_cases c4:Zrn s≤18446744073709551615
    ·rw[Yi c4];refine xx ?_;refine WI _ _ ⟨by omega,c4⟩ ub ?_;rw[Ui];refine xx ?_;refine WI _ _ ug ui ?_;rw[Yi (show s.gen+s.mint≤18446744073709551615 by omega)];refine xx ?_;refine Z2 fun b4 nb4 zb4=>?_;(try simp only[ZT]at nb4);refine xx ?_;refine Wf (sz:=1) (n:=2) (cap:=2) [] ⟨Nat.le_refl _,by decide⟩ rfl (by decide) zb4 fun h3 le3 s3 f3=>?_;refine Zhi (zs:=[Zhp (Zrn s+s.burn),0]) _ ⟨s3,fun z hz=>?_⟩ ?_
     ·simp only[List.mem_cons,List.not_mem_nil,or_false]at hz;rcases hz with rfl|rfl
      ·unfold Zhp;split<;>decide
      ·decide
     simp only[List.nil_append,List.all_cons,List.all_nil,Bool.and_true];by_cases c5:Zrn s+s.burn≤18446744073709551615
     ·have:WY s=decide (Zrn s+s.burn=s.gen+s.mint):=by simp only[WY,decide_eq_true c3,decide_eq_true (show s.most≤4611686018427387904 by omega),Bool.true_and]
      rw[this]at hk;simp only[Zhp,if_pos c5,decide_true];refine xx ?_;exact ZP (ZP (Wb (le2.trans le3) (ZO hk)))
     ·have:WY s=false:=by simp only[WY];rw[decide_eq_false (show ¬Zrn s+s.burn=s.gen+s.mint by omega)];simp
      rw[this]at hk;simp only[Zhp,if_neg c5];refine xx ?_;exact ZP (ZP (Wb (le2.trans le3) (ZO hk)))
    ·have:WY s=false:=by simp only[WY];rw[decide_eq_false (show ¬Zrn s+s.burn=s.gen+s.mint by omega)];simp
     rw[this]at hk;rw[YD c4];refine xx ?_;exact ZP (ZP (Wb le2 (ZO hk)))
   ·have:WY s=false:=by simp only[WY];rw[decide_eq_false c3];simp
    rw[this]at hk;rw[decide_eq_false c3];refine xx ?_;exact ZP (ZP (Wb le2 (ZO hk)))
 ·have:WY s=false:=by
   have hn:¬(Zyf s≤18446744073709551615∧Zyl s≤18446744073709551615∧Zbp s≤18446744073709551615∧Zyo s≤18446744073709551615):=fun⟨a,b,c,d⟩=>c1 (by simp [Uy,a,b,c,d]);simp only[WY];by_cases a:s.gen+s.mint≤s.most
   ·by_cases b:s.most≤4611686018427387904
    ·rw[decide_eq_false (show ¬Zrn s+s.burn=s.gen+s.mint by omega)];simp
    ·simp [b]
   ·simp [a]
  rw[this]at hk;rw[Zgz,if_neg c1];refine xx ?_;refine Z2 fun b2 nb2 zb2=>?_;(try simp only[ZT]at nb2);refine xx ?_;exact ZP (ZP (ZO hk))
def pv (ds:List Int):Nat→Int
 | 0=>0
 | k+1=>pv ds k+at0 ds k*10 ^ k
def Dg (ds:List Int):Prop:=∀j,0≤at0 ds j∧at0 ds j≤9
def vl (ds:List Int):Int:=pv ds ds.length
theorem p10 (k:Nat):(0:Int)<10 ^ k:=Int.pow_pos (by decide)
theorem VG (ds:List Int)(j:Nat)(s:Int)(i:Nat)(hj:j<ds.length):at0 (ds.set j s) i=if i=j then s else at0 ds i:=by
 simp only[at0,List.getD_eq_getElem?_getD,List.getElem?_set];by_cases e:i=j
 ·subst e;simp [hj]
 ·simp [e,Ne.symm e]
theorem Dg.set {ds:List Int}(hd:Dg ds)(j:Nat)(s:Int)(hj:j<ds.length)(h0:0≤s)(h1:s≤9):Dg (ds.set j s):=by
 intro i;rw[VG ds j s i hj];split
 ·exact⟨h0,h1⟩
 ·exact hd i
theorem Zow (ds:List Int)(s:Int)(i:Nat):at0 (ds++[s]) i=if i<ds.length then at0 ds i else if i=ds.length then s else 0:=by
 simp only[at0,List.getD_eq_getElem?_getD];by_cases e:i<ds.length
 ·simp [e,List.getElem?_append_left e]
 ·rw[if_neg e,List.getElem?_append_right (by omega)];by_cases e2:i=ds.length
  ·subst e2;simp
  ·rw[if_neg e2,List.getElem?_eq_none (by simp;omega)];rfl
theorem Dg.append {ds:List Int}(hd:Dg ds){s:Int}(h0:0≤s)(h1:s≤9):Dg (ds++[s]):=by
 intro i;rw[Zow];have:=hd i;split
 ·exact this
 ·split
  ·exact⟨h0,h1⟩
  ·omega
def Nt (h:PH)(v:Value)(n:Int)(m:Nat):Prop:=∃s ds,v = .agg #[s]∧Ints h .i64 s ds∧Dg ds∧vl ds=n∧ds.length≤m
theorem Nt.up {h h':PH}(le:PH.le h h'){v:Value}{n:Int}{m:Nat}(hs:Nt h v n m):Nt h' v n m:=by
 obtain⟨s,ds,h1,h2,h3⟩:=hs;exact⟨s,ds,h1,h2.up le,h3⟩
theorem Zzz (ds:List Int)(k j:Nat):at0 (ds.take k) j=if j<k then at0 ds j else 0:=by
 simp only[at0,List.getD_eq_getElem?_getD,List.getElem?_take];split<;>rfl
theorem Vq {xs:List Int}(v:Value)(hx:Ints h .u8 v xs)(hl:xs.length≤1000)(hk:∀h' r,PH.le h h'→Ints h' .u8 r xs→K r L h'):Zc prog 104 [v] L h K:=by
 have ox:=hx.open;obtain⟨a,ca,rfl,hna,hca,h0,hcx⟩:=ox;refine ZS func104 rfl (rs:=[_]) rfl rfl ZW (by kernel_rfl) rfl rfl ?_;refine xx ?_
 cases ha:a.isNone with
 | true =>
  have ha':a=none:=by simpa using ha
  subst ha';have hl0:xs.length=0:=by have:=h0 rfl;omega
  have hx':xs=[]:=List.eq_nil_of_length_eq_zero hl0;subst hx';refine xx ?_;refine ZO (hk h _ (PH.le_refl h) ?_);rw[h0 rfl]at hx;exact hx
 | false =>
  refine xx ?_;refine Z2 fun b1 nb1 zb1=>?_;(try simp only[ZT]at nb1);refine xx ?_;refine Z4 (t:=31) (e:=5) (sz:=1) (bytes:=1) (z:=[.int .u8 0]) (by kernel_rfl) Yno rfl rfl rfl rfl (by decide) [] L (some (b1,0)) 0 [] ⟨Nat.le_refl _,Nat.zero_le _⟩ rfl (Src.known hx.1) (by simp) (JF _ _) (by simp [maxLen];omega) (by omega) ?_;intro o' j1 j2 j3;simp only[Nat.zero_add,List.nil_append]at j1 j2 ⊢;refine xx ?_;exact Wh (n:=xs.length) j1 (by simp) (by omega) j2 fun h' le sl=>ZO (hk h' _ le ⟨sl,hx.2⟩)
theorem Zim {xs:List Int}(v:Value)(hx:Ints h .u64 v xs)(hl:xs.length≤1000)(hk:∀h' r,PH.le h h'→Ints h' .u64 r xs→K r L h'):Zc prog 98 [v] L h K:=by
 have ox:=hx.open;obtain⟨a,ca,rfl,hna,hca,h0,hcx⟩:=ox;refine ZS func98 rfl (rs:=[_]) rfl rfl ZW (by kernel_rfl) rfl rfl ?_;refine xx ?_
 cases ha:a.isNone with
 | true =>
  have ha':a=none:=by simpa using ha
  subst ha';have hl0:xs.length=0:=by have:=h0 rfl;omega
  have hx':xs=[]:=List.eq_nil_of_length_eq_zero hl0;subst hx';refine xx ?_;refine ZO (hk h _ (PH.le_refl h) ?_);rw[h0 rfl]at hx;exact hx
 | false =>
  refine xx ?_;refine Z2 fun b1 nb1 zb1=>?_;(try simp only[ZT]at nb1);refine xx ?_;refine Z4 (t:=25) (e:=22) (sz:=1) (bytes:=8) (z:=[.int .u64 0]) (by kernel_rfl) VB rfl rfl rfl rfl (by decide) [] L (some (b1,0)) 0 [] ⟨Nat.le_refl _,Nat.zero_le _⟩ rfl (Src.known hx.1) (by simp) (JF _ _) (by simp [maxLen];omega) (by omega) ?_;intro o' j1 j2 j3;simp only[Nat.zero_add,List.nil_append]at j1 j2 ⊢;refine xx ?_;exact Wh (n:=xs.length) j1 (by simp) (by omega) j2 fun h' le sl=>ZO (hk h' _ le ⟨sl,hx.2⟩)
def orB (x:Int)(j:Nat):Int:=bits .or .u8 x (2 ^ j%256)
def setB (xs:List Int)(i:Int):List Int:=xs.set (i/8).toNat (orB (at0 xs (i/8).toNat) (i%8).toNat)
def bol (bl:List Bool)(i:Nat):Bool:=bl.getD i false
def Bools (h:PH)(v:Value)(bl:List Bool):Prop:=Sl h v bl.length 1 (bl.map Value.bool)
theorem Bools.open {v:Value}{bl:List Bool}(hs:Bools h v bl):∃a cap,v = .slice a bl.length cap∧bl.length≤cap∧(a=none→cap=0)∧∀j,j<bl.length→Yd h a j=some (.bool (bol bl j)):=by
 obtain⟨_,a,cap,h2,h3,h4,h4',h5,h6⟩:=hs;exact⟨a,cap,h2,h3,h5,fun j hj=>h6 j _ (by simp [bol,hj])⟩
def PackB (bl:List Bool)(m:Nat)(x:Int)(j:Nat):Prop :=
 0≤x∧x<2 ^ (8*j+8-max (8*j) m)∧∀k,k<8*j+8-max (8*j) m→(x/2 ^ k%2=1↔bol bl (max (8*j) m+k)=true)
theorem PackB.step {bl:List Bool}{m:Nat}{x:Int}{j:Nat}(hp:PackB bl (m+1) x j)(hj:m/8=j):2*x+(if bol bl m then 1 else 0)≤255∧PackB bl m (2*x+if bol bl m then 1 else 0) j:=by
 obtain⟨h0,h1,h2⟩:=hp;have e1:max (8*j) (m+1)=m+1:=by omega
 have e2:max (8*j) m=m:=by omega
 obtain⟨w,hw⟩:∃w,8*j+8-(m+1)=w:=⟨_,rfl⟩
 have hw2:8*j+8-m=w+1:=by omega
 have hw3:w≤7:=by omega
 rw[e1,hw]at h1 h2;have hb:(0:Int)≤(if bol bl m then 1 else 0)∧(if bol bl m then (1:Int) else 0)≤1:=by split<;>omega
 have hp:(2:Int) ^ (w+1)=2*2 ^ w:=by rw[Int.pow_succ,Int.mul_comm]
 have hp7:(2:Int) ^ w≤128:=by
  have:∀w,w≤7→(2:Int) ^ w≤128:=by decide
  exact this w hw3
 have hc:(if bol bl m then (1:Int) else 0)=1↔bol bl m=true:=by split<;>rename_i hc<;>simp [hc]
 generalize (if bol bl m then (1:Int) else 0)=c at hb hc ⊢
 refine⟨by omega,by omega,?_,?_⟩
 ·rw[e2,hw2,hp];omega
 ·intro k hk;rw[e2,hw2]at hk;rw[e2]
  cases k with
  | zero =>
   simp only[Int.pow_zero,Int.ediv_one,Nat.add_zero];rw[← hc];omega
  | succ k =>
   have e3:(2:Int) ^ (k+1)=2*2 ^ k:=by rw[Int.pow_succ,Int.mul_comm]
   have e:(2*x+c)/2 ^ (k+1)=x/2 ^ k:=by
    rw[e3,← Int.ediv_ediv_of_nonneg (show (0:Int)≤2 by decide),show (2*x+c)/2=x by omega]
   rw[e,h2 k (by omega),show m+1+k=m+(k+1) by omega]
theorem idxB {bl:List Bool}{a:Option Addr}(hc:∀j,j<bl.length→Yd h a j=some (.bool (bol bl j))):∀j,j<bl.length→Yd h a j=some ((fun j=>Value.bool (bol bl j)) j):=hc
theorem Y3 (n lo hi:Int)(hk:K (.bool (wi n lo hi)) L h):Zc prog 277 [.int .u64 n,.int .u64 lo,.int .u64 hi] L h K:=by
 unfold wi at hk;refine ZS func277 rfl (rs:=[_]) rfl rfl ZW (by kernel_rfl) rfl rfl ?_;refine xx ?_;by_cases c:lo≤n
 ·refine xx ?_;exact ZO (by simpa [c] using hk)
 ·refine xx ?_;exact ZO (by simpa [c] using hk)
theorem Zil (n lo hi:Int)(hk:K (.bool (wi n lo hi)) L h):Zc prog 184 [.int .i64 n,.int .i64 lo,.int .i64 hi] L h K:=by
 unfold wi at hk;refine ZS func184 rfl (rs:=[_]) rfl rfl ZW (by kernel_rfl) rfl rfl ?_;refine xx ?_;by_cases c:lo≤n
 ·refine xx ?_;exact ZO (by simpa [c] using hk)
 ·refine xx ?_;exact ZO (by simpa [c] using hk)
theorem Zeb {bl:List Bool}(v:Value)(hb:Bools h v bl)(hl:bl.length≤100)(hk:K (.bool (bl.all id)) L h):Zc prog 276 [v] L h K:=by
 have ob:=hb.open;obtain⟨a,c,rfl,_,_,hcs⟩:=ob;refine ZS func276 rfl (rs:=[_]) rfl rfl ZW (by kernel_rfl) rfl rfl ?_;refine xx ?_;refine WP (0:Nat) (fun k=>k≤bl.length∧∀j,j<k→bol bl j=true) (fun k=>[(7,.int .i64 k),(5,.slice a bl.length c),(6,.int .i64 bl.length)]) (fun k=>bl.length-k) ?_ ?_ ?_
 ·exact⟨Nat.zero_le _,fun j hj=>by omega⟩
 ·simp [Ent,List.lookup]
 intro k ⟨k1,k2⟩;by_cases d:k<bl.length
 ·simp -dsimp -implicitDefEqProofs (disch:=first|with_reducible assumption|omega) [go_sem,idx (idxB hcs)]
  cases hg:bol bl k with
  | true =>
   refine xx ?_;refine⟨k+1,⟨by omega,fun j hj=>?_⟩,by omega,by simp [Ent,List.lookup],Za.refl _ _⟩;by_cases e:j=k
   ·subst e;exact hg
   ·exact k2 j (by omega)
  | false =>
   have:bl.all id=false:=by
    rw[List.all_eq_false];refine⟨bl[k],List.getElem_mem d,?_⟩;simp [bol,d]at hg;simp [hg]
   rw[this]at hk;refine xx ?_;exact ZO hk
 ·have:bl.all id=true:=by
   rw[List.all_eq_true];intro x hx;obtain⟨j,hj,rfl⟩:=List.mem_iff_getElem.1 hx;have:=k2 j (by omega);simp [bol,hj]at this
   simpa using this
  rw[this]at hk;refine xx ?_;exact ZO hk
theorem Zpz (p:Ze)(ok:Zj p)(hk:∀h',PH.le h h'→K (.bool (Vv p)) L h'):Zc prog 165 [Ud p] L h K:=by
 refine ZS func165 rfl (rs:=[_]) rfl rfl ZW (by kernel_rfl) rfl rfl ?_;refine xx ?_;refine Z2 fun b1 nb1 zb1=>?_;(try simp only[ZT]at nb1);refine xx ?_;refine Yn (.tk 0 (.tk 3 (.tk 5 (.tk 8 (.tk 10 (.tk 13 (.tk 15 (.tk 18 (.tk 20 (.tk 23 (.tk 25 (.tk 28 (.tkl 1 (.tkl 4 (.tkl 6 (.tkl 9 (.tkl 11 (.tk 12 (.tkl 14 (.tkl 16 (.tk 17 (.tkl 19 (.tkl 21 (.tkl 24 (.tkl 26 (.tkl 29 (.tk 30 (.o1 2 (.o1 7 (.o1 22 (.o1 27 (.o1 31 (.o1 32 (.tk 33 (.tk 34 (.tk 36 (.tkl 35 (.tkl 37 (.tk 38 (.tk 39 (.tk 40 (.tk 41 (.fin)))))))))) (.nil)) (.nil)) (.nil)) (.nil)) (.nil)) (.nil))))))))))))))))))))))))))))) (by kernel_rfl) (by kernel_rfl) _ (Za.refl _ _) ?_;refine xx ?_;refine Y3 _ _ _ ?_;refine xx ?_;refine Y3 _ _ _ ?_;refine xx ?_;refine Y3 _ _ _ ?_;refine xx ?_;refine Y3 _ _ _ ?_;refine xx ?_;refine Z2 fun b2 nb2 zb2=>?_;(try simp only[ZT]at nb2);refine xkp (Za.tail _ _ _) ?_;refine xx ?_;refine Wf (sz:=1) (n:=7) (cap:=7) [] ⟨Nat.le_refl _,by decide⟩ rfl (by decide) zb2 fun h2 le2 s2 f2=>?_;refine Zeb (bl:=[wi p.inc 1 2147483648,wi p.maxEff p.inc 1099511627776,decide (p.inc≤p.floor),decide (p.floor<p.cap),wi p.cap p.maxEff 1099511627776,wi p.up p.inc 1099511627776,decide (p.down≤1099511627776)]) _ s2 (by simp) ?_;have hs:Vv p=([wi p.inc 1 2147483648,wi p.maxEff p.inc 1099511627776,decide (p.inc≤p.floor),decide (p.floor<p.cap),wi p.cap p.maxEff 1099511627776,wi p.up p.inc 1099511627776,decide (p.down≤1099511627776)].all id&&decide (p.maxEff%p.inc=0)):=rfl;rw[hs]at hk
 cases hB:[wi p.inc 1 2147483648,wi p.maxEff p.inc 1099511627776,decide (p.inc≤p.floor),decide (p.floor<p.cap),wi p.cap p.maxEff 1099511627776,wi p.up p.inc 1099511627776,decide (p.down≤1099511627776)].all id with
 | false =>
  rw[hB]at hk;refine xkp (Za.forget le2) ?_;simp only[List.nil_append];refine xx ?_;exact ZP (ZO (hk h2 le2))
 | true =>
  rw[hB]at hk;have h1:1≤p.inc:=by
   simp only[List.all_cons,List.all_nil,id,Bool.and_eq_true,wi_iff,decide_eq_true_eq,and_true]at hB;omega
  have h3:=ok.w p.maxEff (by simp [YN]);refine xkp (Za.forget le2) ?_;simp only[List.nil_append];refine xx ?_;exact ZP (ZO (by simpa using hk h2 le2))
theorem Zpm (p:Ze)(hk:∀h',PH.le h h'→K (.bool (Ue p)) L h'):Zc prog 166 [Ud p] L h K:=by
 refine ZS func166 rfl (rs:=[_]) rfl rfl ZW (by kernel_rfl) rfl rfl ?_;refine xx ?_;refine Z2 fun b1 nb1 zb1=>?_;(try simp only[ZT]at nb1);refine xx ?_;refine Yn (.tk 0 (.tk 3 (.tk 5 (.tk 8 (.tk 11 (.tk 13 (.tk 16 (.tk 19 (.tkl 1 (.tkl 4 (.tkl 6 (.tkl 9 (.tkl 12 (.tkl 14 (.tkl 17 (.tk 18 (.tkl 20 (.o1 2 (.o1 7 (.o1 10 (.o1 15 (.o1 21 (.o1 22 (.o1 23 (.tk 24 (.fin)) (.nil)) (.nil)) (.nil)) (.nil)) (.nil)) (.nil)) (.nil))))))))))))))))))) (by kernel_rfl) (by kernel_rfl) _ (Za.refl _ _) ?_;refine xx ?_;refine Y3 _ _ _ ?_;refine xx ?_;refine Y3 _ _ _ ?_;refine xx ?_;refine Y3 _ _ _ ?_;refine xx ?_;refine Y3 _ _ _ ?_;refine xx ?_;refine Y3 _ _ _ ?_;refine xx ?_;refine Z2 fun b2 nb2 zb2=>?_;(try simp only[ZT]at nb2);refine xkp (Za.tail _ _ _) ?_;refine xx ?_;refine Wf (sz:=1) (n:=6) (cap:=6) [] ⟨Nat.le_refl _,by decide⟩ rfl (by decide) zb2 fun h2 le2 s2 f2=>?_;refine Zeb (bl:=[wi p.bias 1 4294967296,wi p.biasEm p.bias 4294967296,wi p.quot 1 1099511627776,wi p.quotEm 1 p.quot,decide (p.recover≤4294967296),wi p.scoreCap 1 72057594037927936]) _ s2 (by simp) ?_;have hs:Ue p=[wi p.bias 1 4294967296,wi p.biasEm p.bias 4294967296,wi p.quot 1 1099511627776,wi p.quotEm 1 p.quot,decide (p.recover≤4294967296),wi p.scoreCap 1 72057594037927936].all id:=rfl;rw[← hs];refine xkp (Za.forget le2) ?_;simp only[List.nil_append];refine xx ?_;exact ZP (ZO (hk h2 le2))
theorem Zok (p:Ze)(hk:∀h',PH.le h h'→K (.bool (Js p)) L h'):Zc prog 167 [Ud p] L h K:=by
 refine ZS func167 rfl (rs:=[_]) rfl rfl ZW (by kernel_rfl) rfl rfl ?_;refine xx ?_;refine Z2 fun b1 nb1 zb1=>?_;(try simp only[ZT]at nb1);refine xx ?_;refine Yn (.tk 0 (.tk 3 (.tk 6 (.tk 9 (.tk 12 (.tk 15 (.tk 18 (.tk 21 (.tk 24 (.tk 27 (.tk 30 (.tk 33 (.tkl 1 (.tk 2 (.tkl 4 (.tk 5 (.tkl 7 (.tkl 10 (.tkl 13 (.tkl 16 (.tkl 19 (.tkl 22 (.tkl 25 (.tkl 28 (.tkl 31 (.tkl 34 (.o1 8 (.o1 11 (.o1 14 (.o1 17 (.o1 20 (.o1 23 (.o1 26 (.o1 29 (.o1 32 (.o1 35 (.o1 36 (.o1 37 (.tk 38 (.fin)) (.nil)) (.nil)) (.nil)) (.nil)) (.nil)) (.nil)) (.nil)) (.nil)) (.nil)) (.nil)) (.nil)) (.nil)))))))))))))))))))))))))))) (by kernel_rfl) (by kernel_rfl) _ (Za.refl _ _) ?_;refine xx ?_
 iterate 10
  refine Zil _ _ _ ?_;simp -dsimp -implicitDefEqProofs (disch:=first|with_reducible assumption|omega) [go_sem]
 refine Z2 fun b2 nb2 zb2=>?_;(try simp only[ZT]at nb2);refine xkp (Za.tail _ _ _) ?_;refine xx ?_;refine Wf (sz:=1) (n:=12) (cap:=12) [] ⟨Nat.le_refl _,by decide⟩ rfl (by decide) zb2 fun h2 le2 s2 f2=>?_;refine Zeb (bl:=[decide (p.rate≤4294967296),decide (p.bond≤1099511627776),wi p.delay 0 1000,wi p.wait 0 50,wi p.enact 0 1000,wi p.poll 1 1000,wi p.streak 0 64,wi p.boost 0 1000,wi p.absent 0 10000,wi p.burn 0 10000,wi p.quorum 0 10000,wi p.churn 1 64]) _ s2 (by simp) ?_;have hs:Js p=[decide (p.rate≤4294967296),decide (p.bond≤1099511627776),wi p.delay 0 1000,wi p.wait 0 50,wi p.enact 0 1000,wi p.poll 1 1000,wi p.streak 0 64,wi p.boost 0 1000,wi p.absent 0 10000,wi p.burn 0 10000,wi p.quorum 0 10000,wi p.churn 1 64].all id:=rfl;rw[← hs];refine xkp (Za.forget le2) ?_;simp only[List.nil_append];refine xx ?_;exact ZP (ZO (hk h2 le2))
theorem Zpt (n:Nat)(q:Nat→Bool)(fv:Value)(hn:n≤4611686018427387904)(hq:∀i j,i≤j→q i=true→q j=true)
  (hf:∀i:Nat,i<n→∀K:PK,K (.bool (q i)) L h→Zci prog fv [.int .i64 i] L h K)
  (hk:K (.int .i64 (Wy q n 0)) L h):Zc prog 280 [.int .i64 n,fv] L h K:=by
 refine ZS func280 rfl (rs:=[_]) rfl rfl ZW (by kernel_rfl) rfl rfl ?_;refine xx ?_;refine WP (γ:=Nat×Nat) (0,n) (fun g=>g.1≤g.2∧g.2≤n∧(∀k,k<g.1→q k=false)∧(g.2<n→q g.2=true)) (fun g=>[(5,.int .i64 g.1),(6,.int .i64 g.2),(1,fv)]) (fun g=>g.2-g.1) ?_ ?_ ?_
 ·exact⟨Nat.zero_le _,Nat.le_refl _,fun k hk=>by simp only at hk;omega,fun h=>by simp only at h;omega⟩
 ·simp [Ent,List.lookup,Wo]
 rintro⟨i,j⟩ ⟨i1,i2,i3,i4⟩;simp only at i1 i2 i3 i4 ⊢;by_cases d:i<j
 ·obtain⟨m,hm⟩:∃m,m=(i+j)/2:=⟨_,rfl⟩
  have e:((i:Int)+(j:Int))/2=(m:Int):=by omega
  simp -dsimp -implicitDefEqProofs (disch:=first|with_reducible assumption|omega) [go_sem,e];refine Or.inl (hf m (by omega) _ ?_)
  cases hg:q m with
  | true =>
   refine xx ?_;exact⟨i,m,⟨by omega,by omega,i3,fun _=>hg⟩,by omega,by simp [Ent,List.lookup],Za.refl _ _⟩
  | false =>
   refine xx ?_;refine⟨m+1,j,⟨by omega,i2,fun k hk=>?_,i4⟩,by omega,by simp [Ent,List.lookup],Za.refl _ _⟩
   cases hqk:q k with
   | false=>rfl
   | true=>rw[hq k m (by omega) hqk]at hg;cases hg
 ·have:i=j:=by omega
  subst this;have e:Wy q n 0=i:=JJ (Nat.zero_le _) (by omega) (fun k _ hk=>i3 k hk) (fun h=>i4 (by omega));rw[e]at hk;refine xx ?_;exact ZO hk
theorem Gk (q:Nat→Bool):∀(m k:Nat),Wy (fun i=>q (i+1)) m k+1=Wy q m (k+1)
 | 0,k=>rfl
 | m+1,k=>by
  simp only[Wy];split
  ·rfl
  ·exact Gk q m (k+1)
theorem Ybn (p:Ze)(ok:Zj p)(h1:Vv p=true)(h2:Ue p=true)(hk:K (.int .i64 (J9 p)) L h):Zc prog 168 [Ud p] L h K:=by
 have f1:=YY h1;have f2:=Wv h2;refine ZS func168 rfl (rs:=[_]) rfl rfl ZW (by kernel_rfl) rfl rfl ?_;refine xx ?_;refine Z2 fun b1 nb1 zb1=>?_;(try simp only[ZT]at nb1);refine xx ?_;refine Zpt 1048576 (fun i=>UL p (i+1)) _ (by omega) (fun i j hij he=>Ziq (by omega) (by omega) (by omega) he) (fun i hi K' hk'=>?_) ?_
 ·have hA:0≤p.inc*p.bias∧p.inc*p.bias≤9223372036854775808 :=
   ⟨Int.mul_nonneg (by omega) (by omega),Int.le_trans (Int.mul_le_mul f1.2.1 f2.2.1 (by omega) (by omega)) (by decide)⟩
  have hB:0≤((i:Int)+1)*((i:Int)+1+1)∧((i:Int)+1)*((i:Int)+1+1)≤1099513724929 :=
   ⟨Int.mul_nonneg (by omega) (by omega),Int.le_trans (Int.mul_le_mul (show (i:Int)+1≤1048576 by omega) (show (i:Int)+1+1≤1048577 by omega) (by omega) (by omega)) (by decide)⟩
  refine xx ?_;refine ZS func278 rfl (rs:=[_]) rfl rfl ZW (by kernel_rfl) rfl rfl ?_;refine xx ?_;refine Zan _ _ _ _ (by omega) (by omega) (by omega) (by omega) ?_;refine xx ?_;refine ZO ?_;have e:UL p (i+1) = !decide (p.inc*p.bias*(((i:Int)+1)*((i:Int)+1+1))<2*p.quot*(p.cap-p.floor)):=by
   unfold UL
   push_cast
   rw[← decide_not,decide_eq_decide];omega
  rw[e]at hk'
  simpa using hk'
 ·have e:=Gk (UL p) 1048576 0;have hl:=(W6 (fun i=>UL p (i+1)) 1048576 0).2.1;have e2:J9 p=Wy (fun i=>UL p (i+1)) 1048576 0+1:=by rw[e];rfl
  rw[e2]at hk;refine xx ?_;exact ZP (ZO (by simpa using hk))
theorem Zpg (p:Ze)(ok:Zj p)(hk:∀h',PH.le h h'→K (.int .i64 (if YM p then 0 else 70)) L h'):Zc prog 58 [Ud p] L h K:=by
 refine ZS func58 rfl (rs:=[_]) rfl rfl ZW (by kernel_rfl) rfl rfl ?_;refine xx ?_;refine Z2 fun b1 nb1 zb1=>?_;(try simp only[ZT]at nb1);refine xx ?_;refine Zc.ap (Zpz p ok fun h2 le2 ap=>?_);obtain⟨q2,_⟩:=ap
 cases h1:Vv p with
 | false =>
  rw[show YM p=false by simp [YM,h1]]at hk;refine xx ?_;exact ZP (ZO (hk h2 le2))
 | true =>
  refine xx ?_;refine Zc.ap (Zpm p fun h3 le3 ap=>?_);obtain⟨q3,_⟩:=ap
  cases h2':Ue p with
  | false =>
   rw[show YM p=false by simp [YM,h2']]at hk;refine xx ?_;exact ZP (ZO (hk h3 (le2.trans le3)))
  | true =>
   refine xx ?_;refine Zc.ap (Zok p fun h4 le4 ap=>?_);obtain⟨q4,_⟩:=ap
   cases h3':Js p with
   | false =>
    rw[show YM p=false by simp [YM,h3']]at hk;refine xx ?_;exact ZP (ZO (hk h4 (le2.trans (le3.trans le4))))
   | true =>
    have f1:=YY h1;have f2:=Wv h2';have hl:=(W6 (UL p) 1048576 1).2.1;have hl1:J9 p≤1048577:=by unfold J9;omega
    have e:YM p=(decide (J9 p≤1048576)&&decide (p.bias*(J9 p:Int)≤p.scoreCap)):=by simp [YM,h1,h2',h3']
    have hA:0≤p.bias*(J9 p:Int)∧p.bias*(J9 p:Int)≤4503603922337792 :=
     ⟨Int.mul_nonneg (by omega) (by omega),Int.le_trans (Int.mul_le_mul f2.2.1 (show (J9 p:Int)≤1048577 by omega) (by omega) (by omega)) (by decide)⟩
    rw[e]at hk;refine xx ?_;refine Ybn p ok h1 h2' ?_;by_cases d1:J9 p≤1048576
    ·by_cases d2:p.bias*(J9 p:Int)≤p.scoreCap
     ·refine xx ?_;exact ZP (ZO (by simpa [d1,d2] using hk h4 (le2.trans (le3.trans le4))))
     ·refine xx ?_;exact ZP (ZO (by simpa [d1,d2] using hk h4 (le2.trans (le3.trans le4))))
    ·refine xx ?_;exact ZP (ZO (by simpa [d1] using hk h4 (le2.trans (le3.trans le4))))
end Go.X
