/- Lemmas and contracts. Conditions: as each says. -/
import Derived.Laws.Externs
import Derived.Test.YtllhopbilpdpkaaGreatQ11
set_option linter.unusedVariables false
set_option linter.unusedSimpArgs false
set_option maxHeartbeats 12800000
set_option maxRecDepth 20000
namespace Go.X
open Go.RowKit Go.Proofs Go.Bl Go.Proofs.Tryz
variable {L:Own} {h:PH} {K:PK}
def YK (zs:List Int):Nat→Int
 | 0=>0
 | k+1=>YK zs k+at0 zs k
def tot (zs:List Int):Int:=YK zs zs.length
theorem Gc {zs:List Int}(h0:∀i,0≤at0 zs i):∀ {k m:Nat},k≤m→YK zs k≤YK zs m:=fun {k m} hkm=>by
  induction m with
  | zero => have : k = 0 := by omega
            subst this;exact Int.le_refl _
  | succ m ih =>
    by_cases e:k=m+1
    · subst e;exact Int.le_refl _
    · have:=ih (by omega);have:=h0 m;simp only[YK];omega
theorem VI {zs:List Int}(h0:∀i,0≤at0 zs i)(k:Nat):0≤YK zs k:=by
 have:=Gc h0 (Nat.zero_le k)
 simpa [YK] using this
def Ztm (n:Int):Value:=if n≤18446744073709551615 then .tuple #[.int .u64 n,.int .i64 0] else .tuple #[.int .u64 0,.int .i64 10]
theorem YF {n:Int}(c:n≤18446744073709551615):Ztm n = .tuple #[.int .u64 n,.int .i64 0]:=by simp [Ztm,c]
theorem Wh {n:Int}(c:¬n≤18446744073709551615):Ztm n = .tuple #[.int .u64 0,.int .i64 10]:=by simp [Ztm,c]
theorem Zwm (x y:Int)(hx:0≤x)(hy:0≤y)(hk:K (.tuple #[.int .u64 ((x+y)%18446744073709551616),.int .u64 ((x+y)/18446744073709551616)]) L h):Zb prog 288 [.int .u64 x,.int .u64 y,.int .u64 0] L h K :=
 Zb.extern (fun W=>by
  show (callFunc 288 #[.int .u64 x,.int .u64 y,.int .u64 0]).run prog W=_;rw[run_callFunc_extern func288 (by kernel_rfl) (by kernel_rfl) (by kernel_rfl) (e:=add64Entry) (by kernel_rfl),run_add64 x y 0 hx hy (by decide) (by decide),Int.add_zero]
  rfl) hk
theorem WA (x y:Int)(hx:0≤x∧x≤18446744073709551615)(hy:0≤y∧y≤18446744073709551615)(hk:K (Ztm (x+y)) L h):Zb prog 178 [.int .u64 x,.int .u64 y] L h K:=by
 refine ZS func178 rfl (rs:=[_,_]) rfl rfl ZX (by kernel_rfl) rfl rfl ?_;refine xx ?_;refine Zwm x y hx.1 hy.1 ?_;by_cases c:x+y≤18446744073709551615
 ·have e1:(x+y)%18446744073709551616=x+y:=by omega
  have e2:(x+y)/18446744073709551616=0:=by omega
  rw[YF c]at hk;rw[e1,e2];refine xx ?_;exact ZP hk
 ·have e2:(x+y)/18446744073709551616=1:=by omega
  rw[Wh c]at hk;rw[e2];refine xx ?_;exact ZP hk
theorem Wq {zs:List Int}(v:Value)(hz:Ints h .u64 v zs)(hk:K (Ztm (tot zs)) L h):Zb prog 153 [v] L h K:=by
 have hw:=hz.word;have h0:∀i,0≤at0 zs i:=fun i=>(hw i).1;obtain⟨a,c,rfl,hn,hc,_,hcs⟩:=hz.open;refine ZS func153 rfl (rs:=[_,_]) rfl rfl ZX (by kernel_rfl) rfl rfl ?_;refine xx ?_;refine Wd (0:Nat) (fun k=>k≤zs.length∧YK zs k≤18446744073709551615) (fun k=>[(11,.int .i64 k),(10,.int .i64 zs.length),(9,.slice a zs.length c),(4,.int .u64 (YK zs k))]) (fun k=>zs.length-k) ?_ ?_ ?_
 ·exact⟨Nat.zero_le _,by simp [YK]⟩
 ·simp [Ent,List.lookup,Y3,YK]
 rintro k ⟨k1,k2⟩;by_cases c1:k<zs.length
 ·have hs:=VI h0 k;simp -dsimp -implicitDefEqProofs (disch:=first|with_reducible assumption|omega) [go_sem,idx hcs];refine WA _ _ ⟨hs,k2⟩ (hw k) ?_;by_cases c2:YK zs k+at0 zs k≤18446744073709551615
  ·rw[YF c2];refine xx ?_;exact⟨k+1,⟨by omega,c2⟩,by omega,by simp [Ent,List.lookup,YK],Za.refl _ _⟩
  ·have:=Gc h0 (show k+1≤zs.length by omega);rw[Wh (show ¬tot zs≤18446744073709551615 by simp only[YK,tot]at *;omega)]at hk;rw[Wh c2];refine xx ?_;exact ZP hk
 ·have hkl:k=zs.length:=by omega
  subst hkl;rw[YF (n:=tot zs) k2]at hk;refine xx ?_;exact ZP hk
theorem Ydv {zs:List Int}(v:Value)(hz:Ints h .u64 v zs)(hk:K (Ztm (tot zs)) L h):Zb prog 286 [v] L h K:=by
 refine ZS func286 rfl (rs:=[_,_]) rfl rfl ZX (by kernel_rfl) rfl rfl ?_;refine xx ?_;refine Wq v hz ?_;by_cases c:tot zs≤18446744073709551615
 ·rw[YF c]at hk ⊢;refine xx ?_;exact ZP hk
 ·rw[Wh c]at hk ⊢;refine xx ?_;exact ZP hk
theorem Zby {zs:List Int}(most:Int)(v:Value)(hz:Ints h .u64 v zs)(hm:most≤18446744073709551615)(hk:K (.bool (decide (tot zs≤most))) L h):Zb prog 176 [.int .u64 most,v] L h K:=by
 refine ZS func176 rfl (rs:=[_]) rfl rfl ZX (by kernel_rfl) rfl rfl ?_;refine xx ?_;refine Wq v hz ?_;by_cases c:tot zs≤18446744073709551615
 ·rw[YF c];refine xx ?_;exact ZP hk
 ·rw[decide_eq_false (show ¬tot zs≤most by omega)]at hk;rw[Wh c];refine xx ?_;exact ZP hk
theorem Zjh {zs:List Int}(v:Value)(hz:Ints h .i64 v zs)(hk:K (.bool (zs.all fun z=>decide (z=0))) L h):Zb prog 179 [v] L h K:=by
 obtain⟨a,c,rfl,hn,hc,_,hcs⟩:=hz.open;refine ZS func179 rfl (rs:=[_]) rfl rfl ZX (by kernel_rfl) rfl rfl ?_;refine xx ?_;refine Wd (0:Nat) (fun k=>k≤zs.length∧∀j,j<k→at0 zs j=0) (fun k=>[(7,.int .i64 k),(6,.int .i64 zs.length),(5,.slice a zs.length c)]) (fun k=>zs.length-k) ?_ ?_ ?_
 ·exact⟨Nat.zero_le _,fun j hj=>by omega⟩
 ·simp [Ent,List.lookup,Y3]
 rintro k ⟨k1,k2⟩;by_cases c1:k<zs.length
 ·by_cases c2:at0 zs k=0
  ·simp -dsimp -implicitDefEqProofs (disch:=first|with_reducible assumption|omega) [go_sem,idx hcs];refine⟨k+1,⟨by omega,fun j hj=>?_⟩,by omega,by simp [Ent,List.lookup],Za.refl _ _⟩;by_cases e:j=k
   ·subst e;exact c2
   ·exact k2 j (by omega)
  ·have:(zs.all fun z=>decide (z=0))=false:=by
    rw[List.all_eq_false];exact⟨zs[k],List.getElem_mem c1,by simp [Ye,c2]⟩
   rw[this]at hk;simp -dsimp -implicitDefEqProofs (disch:=first|with_reducible assumption|omega) [go_sem,idx hcs];exact ZP hk
 ·have:(zs.all fun z=>decide (z=0))=true:=by
   rw[List.all_eq_true];intro x hx;obtain⟨j,hj,rfl⟩:=List.mem_iff_getElem.1 hx;simp [Ye,k2 j (by omega)]
  rw[this]at hk;refine xx ?_;exact ZP hk
def U7 {α:Type}(f:α→Int)(l:List α)(k:Nat):List Value:=((l.take k).map f).map (.int .u64)
theorem WB {α:Type}{f:α→Int}{l:List α}{k:Nat}(hk:k≤l.length):(U7 f l k).length=k*1:=by simp [U7,hk]
theorem VL {α:Type}{f:α→Int}{l:List α}{k:Nat}(z:α)(hk:k<l.length):U7 f l (k+1)=U7 f l k++[.int .u64 (f (gr z l k))]:=by
 rw[Z9 hk,U7,U7,List.take_succ_eq_append_getElem hk,List.map_append,List.map_append];rfl
theorem J6 {α:Type}{f:α→Int}{l:List α}{h:PH}{v:Value}(sl:Sl h v l.length 1 (U7 f l l.length))(hm:∀x∈l,0≤f x∧f x≤18446744073709551615):Ints h .u64 v (l.map f):=by
 refine⟨?_,fun z hz=>?_⟩
 ·simpa [U7] using sl
 ·obtain⟨x,hx,rfl⟩:=List.mem_map.1 hz;exact hm x hx
theorem Ziw {l:List Zc}(v:Value)(hd0:Zh Ym 6 h v l)(hm:∀x∈l,Zg x)(hn:l.length≤100000)(hk:∀h' r,PH.le h h'→Ints h' .u64 r (l.map Zc.bal)→K r L h'):Zb prog 285 [v] L h K:=by
 obtain⟨a,c,rfl,hc,hl,_,hd⟩:=hd0.open;refine ZS func285 rfl (rs:=[_]) rfl rfl ZX (by kernel_rfl) rfl rfl ?_;refine xx ?_;refine Yu (γ:=Nat×Option (Nat×Nat)) (0,none) (fun s=>s.1≤l.length∧okO s.2 s.1∧apO s.2 L h) (fun s=>[(8,.int .i64 s.1),(7,.int .i64 l.length),(6,.slice a l.length c),(3,ovs s.2 s.1)])
  (fun s=>oent 22 1 s.2 (U7 Zc.bal l s.1) L) (fun _=>h) (fun s=>l.length-s.1) ?_ ?_ ?_ ?_
 ·exact⟨Nat.zero_le _,rfl,trivial⟩
 ·simp [Ent,List.lookup,Y3,ovs]
 ·exact Za.refl _ _
 rintro⟨k,o⟩ ⟨k1,k2,k3⟩;simp only at k1 k2 k3 ⊢;by_cases c1:k<l.length
 ·simp -dsimp -implicitDefEqProofs (disch:=first|with_reducible assumption|omega) [go_sem,↓WQ ZQ (by decide) hd,Ym];refine Z0 fun b1 nb1 zb1=>?_;(try simp only[ZT]at nb1);simp -dsimp -implicitDefEqProofs (disch:=first|with_reducible assumption|omega) [go_sem,Ym];refine Z0 fun b2 nb2 zb2=>?_;(try simp only[ZT]at nb2);simp -dsimp -implicitDefEqProofs (disch:=first|with_reducible assumption|omega) [go_sem,Ym];refine Z3 (t:=25) (e:=22) (sz:=1) (bytes:=8) (by kernel_rfl) Ug rfl rfl rfl rfl (by decide) [_,_] L o k (U7 Zc.bal l k) k2 (WB k1) (Src.own List.mem_cons_self) (m:=1) (news:=[.int .u64 (gr ZQ l k).bal]) rfl (by intro u hu;simp only[List.mem_singleton]at hu;subst hu;rfl) (by simp [maxLen];omega) (by omega) ?_;intro o' j1 j2 j3;refine xx ?_;refine⟨k+1,o',⟨by omega,j1,ZZ (ZZ j2)⟩,by omega,by simp [Ent,List.lookup],?_⟩;rw[VL ZQ c1];exact(Za.tail _ _ _).trans (Za.tail _ _ _)
 ·have hkl:k=l.length:=by omega
  subst hkl;refine xx ?_;exact YR (n:=l.length) k2 (WB (Nat.le_refl _)) (by omega) k3 fun h' le sl=>ZP (hk h' _ le (J6 sl fun x hx=>(hm x hx).u _ (by simp)))
theorem Zsq (d:Zk)(hk:K (.int .u64 d.amt) L h):Zb prog 348 [.agg #[.int .i64 d.acct,.int .i64 d.mem,.int .u64 d.amt,.bool d.new]] L h K:=by
 refine ZS func348 rfl (rs:=[_]) rfl rfl ZX (by kernel_rfl) rfl rfl ?_;refine xx ?_;refine Z0 fun b1 nb1 zb1=>?_;(try simp only[ZT]at nb1);refine xx ?_;exact ZO (ZP hk)
theorem Zrc (d:Zi)(hk:K (.int .u64 d.amt) L h):Zb prog 350 [.agg #[.int .i64 d.acct,.int .i64 d.at',.int .u64 d.amt]] L h K:=by
 refine ZS func350 rfl (rs:=[_]) rfl rfl ZX (by kernel_rfl) rfl rfl ?_;refine xx ?_;refine Z0 fun b1 nb1 zb1=>?_;(try simp only[ZT]at nb1);refine xx ?_;exact ZO (ZP hk)
theorem Zdh {l:List Zk}(v:Value)(hd0:Zh Ua 4 h v l)(hn:l.length≤100000)(hk:∀o,okO o l.length→apO o L h→K (ovs o l.length) (oent 22 1 o (U7 Zk.amt l l.length) L) h):Zb prog 347 [v,.func (.func 348) #[] #[]] L h K:=by
 obtain⟨a,c,rfl,hc,hl,_,hd⟩:=hd0.open;refine ZS func347 rfl (rs:=[_]) rfl rfl ZX (by kernel_rfl) rfl rfl ?_;refine xx ?_;refine Yu (γ:=Nat×Option (Nat×Nat)) (0,none) (fun s=>s.1≤l.length∧okO s.2 s.1∧apO s.2 L h) (fun s=>[(10,.int .i64 s.1),(9,.int .i64 l.length),(8,.slice a l.length c),(5,ovs s.2 s.1),(1,.func (.func 348) #[] #[])])
  (fun s=>oent 22 1 s.2 (U7 Zk.amt l s.1) L) (fun _=>h) (fun s=>l.length-s.1) ?_ ?_ ?_ ?_
 ·exact⟨Nat.zero_le _,rfl,trivial⟩
 ·simp [Ent,List.lookup,Y3,ovs]
 ·exact Za.refl _ _
 rintro⟨k,o⟩ ⟨k1,k2,k3⟩;simp only at k1 k2 k3 ⊢;by_cases c1:k<l.length
 ·simp -dsimp -implicitDefEqProofs (disch:=first|with_reducible assumption|omega) [go_sem,↓WQ Z4 (by decide) hd,Ua];refine Z0 fun b1 nb1 zb1=>?_;(try simp only[ZT]at nb1);simp -dsimp -implicitDefEqProofs (disch:=first|with_reducible assumption|omega) [go_sem,Ua];refine Zsq (gr Z4 l k) ?_;refine xx ?_;refine Z0 fun b2 nb2 zb2=>?_;(try simp only[ZT]at nb2);refine xx ?_;refine Z3 (t:=25) (e:=22) (sz:=1) (bytes:=8) (by kernel_rfl) Ug rfl rfl rfl rfl (by decide) [_,_] L o k (U7 Zk.amt l k) k2 (WB k1) (Src.own List.mem_cons_self) (m:=1) (news:=[.int .u64 (gr Z4 l k).amt]) rfl (by intro u hu;simp only[List.mem_singleton]at hu;subst hu;rfl) (by simp [maxLen];omega) (by omega) ?_;intro o' j1 j2 j3;refine xx ?_;refine⟨k+1,o',⟨by omega,j1,ZZ (ZZ j2)⟩,by omega,by simp [Ent,List.lookup],?_⟩;rw[VL Z4 c1];exact(Za.tail _ _ _).trans (Za.tail _ _ _)
 ·have hkl:k=l.length:=by omega
  subst hkl;refine xx ?_;exact ZP (hk o k2 k3)
theorem Zdk {l:List Zi}(v:Value)(hd0:Zh YB 3 h v l)(hn:l.length≤100000)(hk:∀o,okO o l.length→apO o L h→K (ovs o l.length) (oent 22 1 o (U7 Zi.amt l l.length) L) h):Zb prog 349 [v,.func (.func 350) #[] #[]] L h K:=by
 obtain⟨a,c,rfl,hc,hl,_,hd⟩:=hd0.open;refine ZS func349 rfl (rs:=[_]) rfl rfl ZX (by kernel_rfl) rfl rfl ?_;refine xx ?_;refine Yu (γ:=Nat×Option (Nat×Nat)) (0,none) (fun s=>s.1≤l.length∧okO s.2 s.1∧apO s.2 L h) (fun s=>[(10,.int .i64 s.1),(9,.int .i64 l.length),(8,.slice a l.length c),(5,ovs s.2 s.1),(1,.func (.func 350) #[] #[])])
  (fun s=>oent 22 1 s.2 (U7 Zi.amt l s.1) L) (fun _=>h) (fun s=>l.length-s.1) ?_ ?_ ?_ ?_
 ·exact⟨Nat.zero_le _,rfl,trivial⟩
 ·simp [Ent,List.lookup,Y3,ovs]
 ·exact Za.refl _ _
 rintro⟨k,o⟩ ⟨k1,k2,k3⟩;simp only at k1 k2 k3 ⊢;by_cases c1:k<l.length
 ·simp -dsimp -implicitDefEqProofs (disch:=first|with_reducible assumption|omega) [go_sem,↓WQ ZV (by decide) hd,YB];refine Z0 fun b1 nb1 zb1=>?_;(try simp only[ZT]at nb1);simp -dsimp -implicitDefEqProofs (disch:=first|with_reducible assumption|omega) [go_sem,YB];refine Zrc (gr ZV l k) ?_;refine xx ?_;refine Z0 fun b2 nb2 zb2=>?_;(try simp only[ZT]at nb2);refine xx ?_;refine Z3 (t:=25) (e:=22) (sz:=1) (bytes:=8) (by kernel_rfl) Ug rfl rfl rfl rfl (by decide) [_,_] L o k (U7 Zi.amt l k) k2 (WB k1) (Src.own List.mem_cons_self) (m:=1) (news:=[.int .u64 (gr ZV l k).amt]) rfl (by intro u hu;simp only[List.mem_singleton]at hu;subst hu;rfl) (by simp [maxLen];omega) (by omega) ?_;intro o' j1 j2 j3;refine xx ?_;refine⟨k+1,o',⟨by omega,j1,ZZ (ZZ j2)⟩,by omega,by simp [Ent,List.lookup],?_⟩;rw[VL ZV c1];exact(Za.tail _ _ _).trans (Za.tail _ _ _)
 ·have hkl:k=l.length:=by omega
  subst hkl;refine xx ?_;exact ZP (hk o k2 k3)
theorem Zb.fin {f:FuncId}{args:List Value}{L:Own}{h:PH}{K:PK}(hs:Zb prog f args L h fun v L' h'=>fin K v L' h'):Zb prog f args L h K :=
 ⟨trivial,fun W hg=>(hs.2 W hg).mono fun e W' ⟨r,L',h',he,⟨L2,h2,hd,hk⟩,st⟩=>by
  obtain⟨g,f⟩:=hd W' st.1;refine⟨r,L2,h2,he,hk,g,st.2.1,fun e he=>?_⟩;obtain⟨e',he',hb⟩:=List.mem_map.1 (f e he)
  rw[← hb];exact st.2.2 e' he'⟩
theorem Wa {v:Value}{h':PH}(le:PH.le h h')(hk:fin K v L h):fin K v L h':=by
 obtain⟨L2,h2,hd,hk⟩:=hk;exact⟨L2,h2,(Za.forget le).trans hd,hk⟩
theorem Zgq:tot []=0:=rfl
theorem Zoh {l:List Zk}{m:List Zi}(v u:Value)(hv:Zh Ua 4 h v l)(hu:Zh YB 3 h u m)(hl:∀x∈l,ZI x)(hm:∀x∈m,Zr x)(nl:l.length≤100000)(nm:m.length≤100000)
  (hk:K (Ztm (tot (l.map Zk.amt++m.map Zi.amt))) L h):Zb prog 287 [v,u] L h K:=by
 have ov:=hv.open;obtain⟨va,vc,rfl,_⟩:=ov;have ou:=hu.open;obtain⟨ua,uc,rfl,_⟩:=ou;refine ZS func287 rfl (rs:=[_,_]) rfl rfl ZX (by kernel_rfl) rfl rfl ?_;refine xx ?_;refine Zdh _ hv nl fun o k1 k2=>?_;refine xx ?_;refine Zdk _ hu nm fun o2 j1 j2=>?_;refine xx ?_;have c1:=WB (f:=Zk.amt) (l:=l) (Nat.le_refl _);have c2:=WB (f:=Zi.amt) (l:=m) (Nat.le_refl _);have conv:∀(h':PH) (w:Value),Sl h' w (l.length+m.length) 1 (U7 Zk.amt l l.length++U7 Zi.amt m m.length)→Ints h' .u64 w (l.map Zk.amt++m.map Zi.amt):=fun h' w sl=>by
  refine⟨?_,fun z hz=>?_⟩
  ·simpa [U7] using sl
  ·rcases List.mem_append.1 hz with hz|hz
   ·obtain⟨x,hx,rfl⟩:=List.mem_map.1 hz;exact(hl x hx).a
   ·obtain⟨x,hx,rfl⟩:=List.mem_map.1 hz;exact(hm x hx).a
 cases o2 with
 | none =>
  have hm0:m.length=0:=j1;have hm0':m=[]:=List.eq_nil_of_length_eq_zero hm0;subst hm0';have hk:K (Ztm (tot (l.map Zk.amt))) L h:=by simpa using hk
  simp only[oent,ovs];refine Z3 (t:=25) (e:=22) (sz:=1) (bytes:=8) (by kernel_rfl) Ug rfl rfl rfl rfl (by decide) [] L o l.length (U7 Zk.amt l l.length) k1 c1 (Src.known (n:=0) (sz:=1) (cs:=[]) (WL h .u64).1) (m:=0) (news:=[]) rfl (by simp) (by simp [maxLen];omega) (by omega) ?_;intro o' i1 i2 i3;refine xx ?_;refine Vh (n:=l.length) i1 (by simpa using c1) (by omega) i2 fun h' le sl=>?_;refine Wq (zs:=l.map Zk.amt) _ (by simpa using conv h' _ (by simpa [U7] using sl)) ?_;by_cases c:tot (l.map Zk.amt)≤18446744073709551615
  ·rw[YF c]at hk ⊢;refine xx ?_;exact Wa le (ZP hk)
  ·rw[Wh c]at hk ⊢;refine xx ?_;exact Wa le (ZP hk)
 | some p =>
  obtain⟨b2,cap2⟩:=p;simp only[oent,ovs];refine Z3 (t:=25) (e:=22) (sz:=1) (bytes:=8) (by kernel_rfl) Ug rfl rfl rfl rfl (by decide) [_] L o l.length (U7 Zk.amt l l.length) k1 c1 (Src.own List.mem_cons_self) (m:=m.length) (news:=U7 Zi.amt m m.length) c2 (by intro u hu;simp only[U7,List.mem_map]at hu;obtain⟨_,_,rfl⟩:=hu;rfl) (by simp [maxLen];omega) (by omega) ?_;intro o' i1 i2 i3;refine xx ?_;refine Ge (Vh (n:=l.length+m.length) i1 (by rw[List.length_append,c1,c2];omega) (by omega) (ZZ i2) fun h' le sl=>?_);refine Wq _ (conv h' _ sl) ?_;by_cases c:tot (l.map Zk.amt++m.map Zi.amt)≤18446744073709551615
  ·rw[YF c]at hk ⊢;refine xx ?_;exact Wa le (ZP hk)
  ·rw[Wh c]at hk ⊢;refine xx ?_;exact Wa le (ZP hk)
def Zsn (s:Ze):Int:=tot (s.members.map Zc.bal)
def Zta (s:Ze):Int:=tot s.purses
def Gx (s:Ze):Int:=tot (s.pool.map Zk.amt)
def Zrn (s:Ze):Int:=tot (s.dues.map Zi.amt)
def Zie (n:Int):Int:=if n≤18446744073709551615 then 0 else 10
theorem UG (n:Int):Ztm n = .tuple #[.int .u64 (if n≤18446744073709551615 then n else 0),.int .i64 (Zie n)]:=by
 unfold Ztm Zie;split<;>rfl
structure Zv (s:Ze):Prop where
 p:s.purses.length≤100000
 m:s.members.length≤100000
 e:s.entry.length≤100000
 x:s.exit.length≤100000
 o:s.pool.length≤100000
 d:s.dues.length≤100000
 t:s.motions.length≤100000
 r:s.ring.length≤100000
theorem Ycv (a b c d e:Int):tot [a,b,c,d,e]=a+b+c+d+e:=by simp [tot,YK,at0]
theorem Zyv (a b:Int):tot [a,b]=a+b:=by simp [tot,YK,at0]
theorem YI {zs:List Int}(h0:∀i,0≤at0 zs i):0≤tot zs:=VI h0 _
def Jc (s:Ze):Bool:=decide (Zsn s≤18446744073709551615)&&decide (Zta s≤18446744073709551615)&&decide (Gx s≤18446744073709551615)&&decide (Zrn s≤18446744073709551615)
def Zkn (s:Ze):Value:=if Jc s then .tuple #[.agg #[.int .u64 (Zsn s),.int .u64 (Zta s),.int .u64 (Gx s),.int .u64 (Zrn s),.int .u64 s.treas],.int .i64 0] else .tuple #[.agg #[.int .u64 0,.int .u64 0,.int .u64 0,.int .u64 0,.int .u64 0],.int .i64 10]
theorem Ydi (a b c d:Int):([Zie a,Zie b,Zie c,Zie d].all fun z=>decide (z=0))=(decide (a≤18446744073709551615)&&decide (b≤18446744073709551615)&&decide (c≤18446744073709551615)&&decide (d≤18446744073709551615)):=by
 have e:∀n,decide (Zie n=0)=decide (n≤18446744073709551615):=fun n=>by unfold Zie;split<;>simp [*]
 simp only[List.all_cons,List.all_nil,e,Bool.and_true,Bool.and_assoc]
theorem Yak {s:Ze}(v:SV)(hs:Zo h v s)(few:Zv s)(hk:K (Zkn s) L h):Zb prog 175 [stV s v] L h K:=by
 obtain⟨pa,pc,hp,_⟩:=hs.p.open;obtain⟨ma,mc,hm,_⟩:=hs.m.open;obtain⟨oa,oc,ho,_⟩:=hs.o.open;obtain⟨da,dc,hd,_⟩:=hs.d.open;refine ZS func175 rfl (rs:=[_,_]) rfl rfl ZX (by kernel_rfl) rfl rfl ?_;refine xx ?_;refine Z0 fun b1 nb1 zb1=>?_;(try simp only[ZT]at nb1);refine xx ?_;refine Z0 fun b2 nb2 zb2=>?_;(try simp only[ZT]at nb2);refine xx ?_;refine Zb.apn (Ziw _ hs.m hs.mo few.m fun h1 r1 le1 i1 ap nd=>?_);obtain⟨ap1,ap2,ap3⟩:=ap;refine xx ?_;refine Wq _ i1 ?_;rw[UG];refine xx ?_;refine Ydv _ (hs.p.up le1) ?_;rw[UG];refine xx ?_;refine Zoh _ _ (hs.o.up le1) (Zh.nil Yy h1) hs.oo (fun x hx=>by cases hx) few.o (by simp) ?_;simp only[List.map_nil,List.append_nil];rw[UG];refine xx ?_;refine Zoh _ _ (Zh.nil VY h1) (hs.d.up le1) (fun x hx=>by cases hx) hs.dd (by simp) few.d ?_;simp only[List.map_nil,List.nil_append];rw[UG];refine xx ?_;refine Z0 fun b3 nb3 zb3=>?_;(try simp only[ZT]at nb3);refine xx ?_;refine Yc (sz:=1) (n:=4) (cap:=4) [] ⟨Nat.le_refl _,by decide⟩ rfl (by decide) zb3 fun h2 le2 s2 f2=>?_;have q1:h2 b2=noC:=by rw[f2 _ nb3.1];exact ap1
 have q2:h2 b1=noC:=by rw[f2 _ nb3.2.1];exact ap2
 refine Zjh (zs:=[Zie (Zsn s),Zie (Zta s),Zie (Gx s),Zie (Zrn s)]) _ ⟨s2,fun z hz=>?_⟩ ?_
 ·simp only[List.mem_cons,List.not_mem_nil,or_false]at hz;rcases hz with rfl|rfl|rfl|rfl<;>(unfold Zie;split<;>decide)
 rw[Ydi]
 cases hB:Jc s with
 | false =>
  rw[Zkn,if_neg (by rw[hB];exact Bool.false_ne_true)]at hk;rw[Jc]at hB;rw[hB];simp only[List.nil_append];refine xx ?_;exact ZO (ZO (Wa (le1.trans le2) (ZP hk)))
 | true =>
  rw[Zkn,if_pos hB]at hk;rw[Jc]at hB;rw[hB];simp only[Jc,Bool.and_eq_true,decide_eq_true_eq]at hB;obtain⟨⟨⟨e1,e2⟩,e3⟩,e4⟩:=hB;simp only[Zsn,Zta,Gx,Zrn]at e1 e2 e3 e4 hk;simp only[if_pos e1,if_pos e2,if_pos e3,if_pos e4];simp only[List.nil_append];refine xx ?_;exact ZO (ZO (Wa (le1.trans le2) (ZP hk)))
theorem Zwc (a b c d e:Int)(ha:0≤a∧a≤18446744073709551615)(hb:0≤b∧b≤18446744073709551615)(hc:0≤c∧c≤18446744073709551615)(hd:0≤d∧d≤18446744073709551615)(he:0≤e∧e≤18446744073709551615)
  (hk:K (Ztm (a+b+c+d+e)) L h):Zb prog 177 [.agg #[.int .u64 a,.int .u64 b,.int .u64 c,.int .u64 d,.int .u64 e]] L h K:=by
 rw[UG]at hk;refine ZS func177 rfl (rs:=[_,_]) rfl rfl ZX (by kernel_rfl) rfl rfl ?_;refine xx ?_;refine Z0 fun b1 nb1 zb1=>?_;(try simp only[ZT]at nb1);refine xx ?_;refine Z0 fun b2 nb2 zb2=>?_;(try simp only[ZT]at nb2);refine xx ?_;refine Yc (sz:=1) (n:=5) (cap:=5) [] ⟨Nat.le_refl _,by decide⟩ rfl (by decide) zb2 fun h2 le2 s2 f2=>?_;refine Wq (zs:=[a,b,c,d,e]) _ ⟨s2,fun z hz=>?_⟩ ?_
 ·simp only[List.mem_cons,List.not_mem_nil,or_false]at hz;rcases hz with rfl|rfl|rfl|rfl|rfl<;>assumption
 rw[Ycv,UG];simp only[List.nil_append];refine xx ?_;exact ZO (Wa le2 (ZP hk))
def Zkr (s:Ze):Int:=Zsn s+Zta s+Gx s+Zrn s+s.treas
def Wc (s:Ze):Bool:=decide (s.gen+s.mint≤s.most)&&decide (s.most≤4611686018427387904)&&decide (Zkr s+s.burn=s.gen+s.mint)
theorem UD {α:Type}(f:α→Int)(l:List α)(hm:∀x∈l,0≤f x)(i:Nat):0≤at0 (l.map f) i:=by
 unfold at0;by_cases hi:i<l.length
 ·rw[List.getD_eq_getElem?_getD,List.getElem?_map,List.getElem?_eq_getElem hi];exact hm _ (List.getElem_mem hi)
 ·rw[List.getD_eq_getElem?_getD,List.getElem?_map,List.getElem?_eq_none (by omega)];exact Int.le_refl _
theorem Zo.parts {v:SV}{s:Ze}(hs:Zo h v s):0≤Zsn s∧0≤Zta s∧0≤Gx s∧0≤Zrn s :=
 ⟨YI fun i=>UD _ _ (fun x hx=>((hs.mo x hx).u _ (by simp)).1) i,YI fun i=>(hs.p.word i).1,YI fun i=>UD _ _ (fun x hx=>(hs.oo x hx).a.1) i,YI fun i=>UD _ _ (fun x hx=>(hs.dd x hx).a.1) i⟩
theorem Zyt {s:Ze}(v:SV)(hs:Zo h v s)(few:Zv s)(hk:K (.bool (Wc s)) L h):Zb prog 65 [stV s v] L h K:=by
 obtain⟨p1,p2,p3,p4⟩:=hs.parts;have um:0≤s.most∧s.most≤18446744073709551615:=hs.ok.u _ (by simp);have ug:0≤s.gen∧s.gen≤18446744073709551615:=hs.ok.u _ (by simp);have ui:0≤s.mint∧s.mint≤18446744073709551615:=hs.ok.u _ (by simp);have ub:0≤s.burn∧s.burn≤18446744073709551615:=hs.ok.u _ (by simp);have ut:0≤s.treas∧s.treas≤18446744073709551615:=hs.ok.u _ (by simp);obtain⟨pa,pc,hp,_⟩:=hs.p.open;refine ZS func65 rfl (rs:=[_]) rfl rfl ZX (by kernel_rfl) rfl rfl ?_;refine xx ?_;refine Z0 fun b1 nb1 zb1=>?_;(try simp only[ZT]at nb1);refine xx ?_;refine Yak v hs few ?_;have hS:Zkr s=Zsn s+Zta s+Gx s+Zrn s+s.treas:=rfl;by_cases c1:Jc s=true
 ·rw[Zkn,if_pos c1];simp only[Jc,Bool.and_eq_true,decide_eq_true_eq]at c1;obtain⟨⟨⟨e1,e2⟩,e3⟩,e4⟩:=c1;refine xx ?_;refine Z0 fun b2 nb2 zb2=>?_;(try simp only[ZT]at nb2);refine xx ?_;by_cases c2:4611686018427387904<s.most
  ·rw[show Wc s=false by simp only[Wc];rw[decide_eq_false (show ¬s.most≤4611686018427387904 by omega)];simp]at hk;refine xx ?_;exact ZO (ZO (ZP hk))
  ·refine xx ?_;refine Z0 fun b3 nb3 zb3=>?_;(try simp only[ZT]at nb3);refine xx ?_;refine Yc (sz:=1) (n:=2) (cap:=2) [] ⟨Nat.le_refl _,by decide⟩ rfl (by decide) zb3 fun h2 le2 s2 f2=>?_;have q1:h2 b2=noC:=by rw[f2 _ nb3.1];exact zb2
   have q2:h2 b1=noC:=by rw[f2 _ nb3.2.1];exact zb1
   refine Zby (zs:=[s.gen,s.mint]) s.most _ ⟨s2,fun z hz=>?_⟩ um.2 ?_
   ·simp only[List.mem_cons,List.not_mem_nil,or_false]at hz;rcases hz with rfl|rfl<;>assumption
   rw[Zyv];simp only[List.nil_append];by_cases c3:s.gen+s.mint≤s.most
   ·rw[decide_eq_true c3];refine xx ?_;refine Zwc _ _ _ _ _ ⟨p1,e1⟩ ⟨p2,e2⟩ ⟨p3,e3⟩ ⟨p4,e4⟩ ut ?_;rw[← hS];by_cases c4:Zkr s≤18446744073709551615
    ·rw[YF c4];refine xx ?_;refine WA _ _ ⟨by omega,c4⟩ ub ?_;rw[UG];refine xx ?_;refine WA _ _ ug ui ?_;rw[YF (show s.gen+s.mint≤18446744073709551615 by omega)];refine xx ?_;refine Z0 fun b4 nb4 zb4=>?_;(try simp only[ZT]at nb4);refine xx ?_;refine Yc (sz:=1) (n:=2) (cap:=2) [] ⟨Nat.le_refl _,by decide⟩ rfl (by decide) zb4 fun h3 le3 s3 f3=>?_;refine Zjh (zs:=[Zie (Zkr s+s.burn),0]) _ ⟨s3,fun z hz=>?_⟩ ?_
     ·simp only[List.mem_cons,List.not_mem_nil,or_false]at hz;rcases hz with rfl|rfl
      ·unfold Zie;split<;>decide
      ·decide
     simp only[List.nil_append,List.all_cons,List.all_nil,Bool.and_true];by_cases c5:Zkr s+s.burn≤18446744073709551615
     ·have:Wc s=decide (Zkr s+s.burn=s.gen+s.mint):=by simp only[Wc,decide_eq_true c3,decide_eq_true (show s.most≤4611686018427387904 by omega),Bool.true_and]
      rw[this]at hk;simp only[Zie,if_pos c5,decide_true];refine xx ?_;exact ZO (ZO (Wa (le2.trans le3) (ZP hk)))
     ·have:Wc s=false:=by simp only[Wc];rw[decide_eq_false (show ¬Zkr s+s.burn=s.gen+s.mint by omega)];simp
      rw[this]at hk;simp only[Zie,if_neg c5];refine xx ?_;exact ZO (ZO (Wa (le2.trans le3) (ZP hk)))
    ·have:Wc s=false:=by simp only[Wc];rw[decide_eq_false (show ¬Zkr s+s.burn=s.gen+s.mint by omega)];simp
     rw[this]at hk;rw[Wh c4];refine xx ?_;exact ZO (ZO (Wa le2 (ZP hk)))
   ·have:Wc s=false:=by simp only[Wc];rw[decide_eq_false c3];simp
    rw[this]at hk;rw[decide_eq_false c3];refine xx ?_;exact ZO (ZO (Wa le2 (ZP hk)))
 ·have:Wc s=false:=by
   have hn:¬(Zsn s≤18446744073709551615∧Zta s≤18446744073709551615∧Gx s≤18446744073709551615∧Zrn s≤18446744073709551615):=fun⟨a,b,c,d⟩=>c1 (by simp [Jc,a,b,c,d]);simp only[Wc];by_cases a:s.gen+s.mint≤s.most
   ·by_cases b:s.most≤4611686018427387904
    ·rw[decide_eq_false (show ¬Zkr s+s.burn=s.gen+s.mint by omega)];simp
    ·simp [b]
   ·simp [a]
  rw[this]at hk;rw[Zkn,if_neg c1];refine xx ?_;refine Z0 fun b2 nb2 zb2=>?_;(try simp only[ZT]at nb2);refine xx ?_;exact ZO (ZO (ZP hk))
end Go.X
