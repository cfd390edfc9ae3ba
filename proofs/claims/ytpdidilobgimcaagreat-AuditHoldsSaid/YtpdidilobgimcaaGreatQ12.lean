/- Lemmas and contracts. Conditions: as each says. -/
import Derived.Laws.Externs
import Derived.Test.YtpdidilobgimcaaGreatQ11
set_option linter.unusedVariables false
set_option linter.unusedSimpArgs false
set_option maxHeartbeats 12800000
set_option maxRecDepth 20000
namespace Go.X
open Go.RowKit Go.Proofs Go.Bl Go.Proofs.Tryz
variable {L:Own} {h:PH} {K:PK}
def YL (zs:List Int):Nat→Int
 | 0=>0
 | k+1=>YL zs k+at0 zs k
def tot (zs:List Int):Int:=YL zs zs.length
theorem J9 {zs:List Int}(h0:∀i,0≤at0 zs i):∀ {k m:Nat},k≤m→YL zs k≤YL zs m:=fun {k m} hkm=>by
  induction m with
  | zero => have : k = 0 := by omega
            subst this;exact Int.le_refl _
  | succ m ih =>
    by_cases e:k=m+1
    · subst e;exact Int.le_refl _
    · have:=ih (by omega);have:=h0 m;simp only[YL];omega
theorem VK {zs:List Int}(h0:∀i,0≤at0 zs i)(k:Nat):0≤YL zs k:=by
 have:=J9 h0 (Nat.zero_le k)
 simpa [YL] using this
def Zqm (n:Int):Value:=if n≤18446744073709551615 then .tuple #[.int .u64 n,.int .i64 0] else .tuple #[.int .u64 0,.int .i64 10]
theorem YK {n:Int}(c:n≤18446744073709551615):Zqm n = .tuple #[.int .u64 n,.int .i64 0]:=by simp [Zqm,c]
theorem Wl {n:Int}(c:¬n≤18446744073709551615):Zqm n = .tuple #[.int .u64 0,.int .i64 10]:=by simp [Zqm,c]
theorem Yah (x y:Int)(hx:0≤x)(hy:0≤y)(hk:K (.tuple #[.int .u64 ((x+y)%18446744073709551616),.int .u64 ((x+y)/18446744073709551616)]) L h):Zb prog 293 [.int .u64 x,.int .u64 y,.int .u64 0] L h K :=
 Zb.extern (fun W=>by
  show (callFunc 293 #[.int .u64 x,.int .u64 y,.int .u64 0]).run prog W=_;rw[run_callFunc_extern func293 (by kernel_rfl) (by kernel_rfl) (by kernel_rfl) (e:=add64Entry) (by kernel_rfl),run_add64 x y 0 hx hy (by decide) (by decide),Int.add_zero]
  rfl) hk
theorem WM (x y:Int)(hx:0≤x∧x≤18446744073709551615)(hy:0≤y∧y≤18446744073709551615)(hk:K (Zqm (x+y)) L h):Zb prog 180 [.int .u64 x,.int .u64 y] L h K:=by
 refine ZS func180 rfl (rs:=[_,_]) rfl rfl ZY (by kernel_rfl) rfl rfl ?_;refine xx ?_;refine Yah x y hx.1 hy.1 ?_;by_cases c:x+y≤18446744073709551615
 ·have e1:(x+y)%18446744073709551616=x+y:=by omega
  have e2:(x+y)/18446744073709551616=0:=by omega
  rw[YK c]at hk;rw[e1,e2];refine xx ?_;exact ZP hk
 ·have e2:(x+y)/18446744073709551616=1:=by omega
  rw[Wl c]at hk;rw[e2];refine xx ?_;exact ZP hk
theorem WK {zs:List Int}(v:Value)(hz:Ints h .u64 v zs)(hk:K (Zqm (tot zs)) L h):Zb prog 165 [v] L h K:=by
 have hw:=hz.word;have h0:∀i,0≤at0 zs i:=fun i=>(hw i).1;obtain⟨a,c,rfl,hn,hc,_,hcs⟩:=hz.open;refine ZS func165 rfl (rs:=[_,_]) rfl rfl ZY (by kernel_rfl) rfl rfl ?_;refine xx ?_;refine Wj (0:Nat) (fun k=>k≤zs.length∧YL zs k≤18446744073709551615) (fun k=>[(11,.int .i64 k),(10,.int .i64 zs.length),(9,.slice a zs.length c),(4,.int .u64 (YL zs k))]) (fun k=>zs.length-k) ?_ ?_ ?_
 ·exact⟨Nat.zero_le _,by simp [YL]⟩
 ·simp [Ent,List.lookup,Y5,YL]
 rintro k ⟨k1,k2⟩;by_cases c1:k<zs.length
 ·have hs:=VK h0 k;simp -dsimp -implicitDefEqProofs (disch:=first|with_reducible assumption|omega) [go_sem,idx hcs];refine WM _ _ ⟨hs,k2⟩ (hw k) ?_;by_cases c2:YL zs k+at0 zs k≤18446744073709551615
  ·rw[YK c2];refine xx ?_;exact⟨k+1,⟨by omega,c2⟩,by omega,by simp [Ent,List.lookup,YL],Za.refl _ _⟩
  ·have:=J9 h0 (show k+1≤zs.length by omega);rw[Wl (show ¬tot zs≤18446744073709551615 by simp only[YL,tot]at *;omega)]at hk;rw[Wl c2];refine xx ?_;exact ZP hk
 ·have hkl:k=zs.length:=by omega
  subst hkl;rw[YK (n:=tot zs) k2]at hk;refine xx ?_;exact ZP hk
theorem Ydm {zs:List Int}(v:Value)(hz:Ints h .u64 v zs)(hk:K (Zqm (tot zs)) L h):Zb prog 291 [v] L h K:=by
 refine ZS func291 rfl (rs:=[_,_]) rfl rfl ZY (by kernel_rfl) rfl rfl ?_;refine xx ?_;refine WK v hz ?_;by_cases c:tot zs≤18446744073709551615
 ·rw[YK c]at hk ⊢;refine xx ?_;exact ZP hk
 ·rw[Wl c]at hk ⊢;refine xx ?_;exact ZP hk
theorem Zbg {zs:List Int}(most:Int)(v:Value)(hz:Ints h .u64 v zs)(hm:most≤18446744073709551615)(hk:K (.bool (decide (tot zs≤most))) L h):Zb prog 178 [.int .u64 most,v] L h K:=by
 refine ZS func178 rfl (rs:=[_]) rfl rfl ZY (by kernel_rfl) rfl rfl ?_;refine xx ?_;refine WK v hz ?_;by_cases c:tot zs≤18446744073709551615
 ·rw[YK c];refine xx ?_;exact ZP hk
 ·rw[decide_eq_false (show ¬tot zs≤most by omega)]at hk;rw[Wl c];refine xx ?_;exact ZP hk
theorem Zhn {zs:List Int}(v:Value)(hz:Ints h .i64 v zs)(hk:K (.bool (zs.all fun z=>decide (z=0))) L h):Zb prog 181 [v] L h K:=by
 obtain⟨a,c,rfl,hn,hc,_,hcs⟩:=hz.open;refine ZS func181 rfl (rs:=[_]) rfl rfl ZY (by kernel_rfl) rfl rfl ?_;refine xx ?_;refine Wj (0:Nat) (fun k=>k≤zs.length∧∀j,j<k→at0 zs j=0) (fun k=>[(7,.int .i64 k),(6,.int .i64 zs.length),(5,.slice a zs.length c)]) (fun k=>zs.length-k) ?_ ?_ ?_
 ·exact⟨Nat.zero_le _,fun j hj=>by omega⟩
 ·simp [Ent,List.lookup,Y5]
 rintro k ⟨k1,k2⟩;by_cases c1:k<zs.length
 ·by_cases c2:at0 zs k=0
  ·simp -dsimp -implicitDefEqProofs (disch:=first|with_reducible assumption|omega) [go_sem,idx hcs];refine⟨k+1,⟨by omega,fun j hj=>?_⟩,by omega,by simp [Ent,List.lookup],Za.refl _ _⟩;by_cases e:j=k
   ·subst e;exact c2
   ·exact k2 j (by omega)
  ·have:(zs.all fun z=>decide (z=0))=false:=by
    rw[List.all_eq_false];exact⟨zs[k],List.getElem_mem c1,by simp [Yf,c2]⟩
   rw[this]at hk;simp -dsimp -implicitDefEqProofs (disch:=first|with_reducible assumption|omega) [go_sem,idx hcs];exact ZP hk
 ·have:(zs.all fun z=>decide (z=0))=true:=by
   rw[List.all_eq_true];intro x hx;obtain⟨j,hj,rfl⟩:=List.mem_iff_getElem.1 hx;simp [Yf,k2 j (by omega)]
  rw[this]at hk;refine xx ?_;exact ZP hk
def UZ {α:Type}(f:α→Int)(l:List α)(k:Nat):List Value:=((l.take k).map f).map (.int .u64)
theorem WL {α:Type}{f:α→Int}{l:List α}{k:Nat}(hk:k≤l.length):(UZ f l k).length=k*1:=by simp [UZ,hk]
theorem VN {α:Type}{f:α→Int}{l:List α}{k:Nat}(z:α)(hk:k<l.length):UZ f l (k+1)=UZ f l k++[.int .u64 (f (gr z l k))]:=by
 rw[Z7 hk,UZ,UZ,List.take_succ_eq_append_getElem hk,List.map_append,List.map_append];rfl
theorem Gc {α:Type}{f:α→Int}{l:List α}{h:PH}{v:Value}(sl:Sl h v l.length 1 (UZ f l l.length))(hm:∀x∈l,0≤f x∧f x≤18446744073709551615):Ints h .u64 v (l.map f):=by
 refine⟨?_,fun z hz=>?_⟩
 ·simpa [UZ] using sl
 ·obtain⟨x,hx,rfl⟩:=List.mem_map.1 hz;exact hm x hx
theorem Zhd {l:List Zc}(v:Value)(hd0:Zg Ym 6 h v l)(hm:∀x∈l,Zh x)(hn:l.length≤100000)(hk:∀h' r,PH.le h h'→Ints h' .u64 r (l.map Zc.bal)→K r L h'):Zb prog 290 [v] L h K:=by
 obtain⟨a,c,rfl,hc,hl,_,hd⟩:=hd0.open;refine ZS func290 rfl (rs:=[_]) rfl rfl ZY (by kernel_rfl) rfl rfl ?_;refine xx ?_;refine Yq (γ:=Nat×Option (Nat×Nat)) (0,none) (fun s=>s.1≤l.length∧okO s.2 s.1∧apO s.2 L h) (fun s=>[(8,.int .i64 s.1),(7,.int .i64 l.length),(6,.slice a l.length c),(3,ovs s.2 s.1)])
  (fun s=>oent 22 1 s.2 (UZ Zc.bal l s.1) L) (fun _=>h) (fun s=>l.length-s.1) ?_ ?_ ?_ ?_
 ·exact⟨Nat.zero_le _,rfl,trivial⟩
 ·simp [Ent,List.lookup,Y5,ovs]
 ·exact Za.refl _ _
 rintro⟨k,o⟩ ⟨k1,k2,k3⟩;simp only at k1 k2 k3 ⊢;by_cases c1:k<l.length
 ·simp -dsimp -implicitDefEqProofs (disch:=first|with_reducible assumption|omega) [go_sem,↓WV ZR (by decide) hd,Ym];refine Z0 fun b1 nb1 zb1=>?_;(try simp only[ZT]at nb1);simp -dsimp -implicitDefEqProofs (disch:=first|with_reducible assumption|omega) [go_sem,Ym];refine Z0 fun b2 nb2 zb2=>?_;(try simp only[ZT]at nb2);simp -dsimp -implicitDefEqProofs (disch:=first|with_reducible assumption|omega) [go_sem,Ym];refine Z3 (t:=25) (e:=22) (sz:=1) (bytes:=8) (by kernel_rfl) VZ rfl rfl rfl rfl (by decide) [_,_] L o k (UZ Zc.bal l k) k2 (WL k1) (Src.own List.mem_cons_self) (m:=1) (news:=[.int .u64 (gr ZR l k).bal]) rfl (by intro u hu;simp only[List.mem_singleton]at hu;subst hu;rfl) (by simp [maxLen];omega) (by omega) ?_;intro o' j1 j2 j3;refine xx ?_;refine⟨k+1,o',⟨by omega,j1,ZZ (ZZ j2)⟩,by omega,by simp [Ent,List.lookup],?_⟩;rw[VN ZR c1];exact(Za.tail _ _ _).trans (Za.tail _ _ _)
 ·have hkl:k=l.length:=by omega
  subst hkl;refine xx ?_;exact YR (n:=l.length) k2 (WL (Nat.le_refl _)) (by omega) k3 fun h' le sl=>ZP (hk h' _ le (Gc sl fun x hx=>(hm x hx).u _ (by simp)))
theorem Ztc (d:Zk)(hk:K (.int .u64 d.amt) L h):Zb prog 348 [.agg #[.int .i64 d.acct,.int .i64 d.mem,.int .u64 d.amt,.bool d.new]] L h K:=by
 refine ZS func348 rfl (rs:=[_]) rfl rfl ZY (by kernel_rfl) rfl rfl ?_;refine xx ?_;refine Z0 fun b1 nb1 zb1=>?_;(try simp only[ZT]at nb1);refine xx ?_;exact ZO (ZP hk)
theorem Zqw (d:Zi)(hk:K (.int .u64 d.amt) L h):Zb prog 350 [.agg #[.int .i64 d.acct,.int .i64 d.at',.int .u64 d.amt]] L h K:=by
 refine ZS func350 rfl (rs:=[_]) rfl rfl ZY (by kernel_rfl) rfl rfl ?_;refine xx ?_;refine Z0 fun b1 nb1 zb1=>?_;(try simp only[ZT]at nb1);refine xx ?_;exact ZO (ZP hk)
theorem Zdk {l:List Zk}(v:Value)(hd0:Zg V1 4 h v l)(hn:l.length≤100000)(hk:∀o,okO o l.length→apO o L h→K (ovs o l.length) (oent 22 1 o (UZ Zk.amt l l.length) L) h):Zb prog 347 [v,.func (.func 348) #[] #[]] L h K:=by
 obtain⟨a,c,rfl,hc,hl,_,hd⟩:=hd0.open;refine ZS func347 rfl (rs:=[_]) rfl rfl ZY (by kernel_rfl) rfl rfl ?_;refine xx ?_;refine Yq (γ:=Nat×Option (Nat×Nat)) (0,none) (fun s=>s.1≤l.length∧okO s.2 s.1∧apO s.2 L h) (fun s=>[(10,.int .i64 s.1),(9,.int .i64 l.length),(8,.slice a l.length c),(5,ovs s.2 s.1),(1,.func (.func 348) #[] #[])])
  (fun s=>oent 22 1 s.2 (UZ Zk.amt l s.1) L) (fun _=>h) (fun s=>l.length-s.1) ?_ ?_ ?_ ?_
 ·exact⟨Nat.zero_le _,rfl,trivial⟩
 ·simp [Ent,List.lookup,Y5,ovs]
 ·exact Za.refl _ _
 rintro⟨k,o⟩ ⟨k1,k2,k3⟩;simp only at k1 k2 k3 ⊢;by_cases c1:k<l.length
 ·simp -dsimp -implicitDefEqProofs (disch:=first|with_reducible assumption|omega) [go_sem,↓WV Z4 (by decide) hd,V1];refine Z0 fun b1 nb1 zb1=>?_;(try simp only[ZT]at nb1);simp -dsimp -implicitDefEqProofs (disch:=first|with_reducible assumption|omega) [go_sem,V1];refine Ztc (gr Z4 l k) ?_;refine xx ?_;refine Z0 fun b2 nb2 zb2=>?_;(try simp only[ZT]at nb2);refine xx ?_;refine Z3 (t:=25) (e:=22) (sz:=1) (bytes:=8) (by kernel_rfl) VZ rfl rfl rfl rfl (by decide) [_,_] L o k (UZ Zk.amt l k) k2 (WL k1) (Src.own List.mem_cons_self) (m:=1) (news:=[.int .u64 (gr Z4 l k).amt]) rfl (by intro u hu;simp only[List.mem_singleton]at hu;subst hu;rfl) (by simp [maxLen];omega) (by omega) ?_;intro o' j1 j2 j3;refine xx ?_;refine⟨k+1,o',⟨by omega,j1,ZZ (ZZ j2)⟩,by omega,by simp [Ent,List.lookup],?_⟩;rw[VN Z4 c1];exact(Za.tail _ _ _).trans (Za.tail _ _ _)
 ·have hkl:k=l.length:=by omega
  subst hkl;refine xx ?_;exact ZP (hk o k2 k3)
theorem Zde {l:List Zi}(v:Value)(hd0:Zg YA 3 h v l)(hn:l.length≤100000)(hk:∀o,okO o l.length→apO o L h→K (ovs o l.length) (oent 22 1 o (UZ Zi.amt l l.length) L) h):Zb prog 349 [v,.func (.func 350) #[] #[]] L h K:=by
 obtain⟨a,c,rfl,hc,hl,_,hd⟩:=hd0.open;refine ZS func349 rfl (rs:=[_]) rfl rfl ZY (by kernel_rfl) rfl rfl ?_;refine xx ?_;refine Yq (γ:=Nat×Option (Nat×Nat)) (0,none) (fun s=>s.1≤l.length∧okO s.2 s.1∧apO s.2 L h) (fun s=>[(10,.int .i64 s.1),(9,.int .i64 l.length),(8,.slice a l.length c),(5,ovs s.2 s.1),(1,.func (.func 350) #[] #[])])
  (fun s=>oent 22 1 s.2 (UZ Zi.amt l s.1) L) (fun _=>h) (fun s=>l.length-s.1) ?_ ?_ ?_ ?_
 ·exact⟨Nat.zero_le _,rfl,trivial⟩
 ·simp [Ent,List.lookup,Y5,ovs]
 ·exact Za.refl _ _
 rintro⟨k,o⟩ ⟨k1,k2,k3⟩;simp only at k1 k2 k3 ⊢;by_cases c1:k<l.length
 ·simp -dsimp -implicitDefEqProofs (disch:=first|with_reducible assumption|omega) [go_sem,↓WV ZW (by decide) hd,YA];refine Z0 fun b1 nb1 zb1=>?_;(try simp only[ZT]at nb1);simp -dsimp -implicitDefEqProofs (disch:=first|with_reducible assumption|omega) [go_sem,YA];refine Zqw (gr ZW l k) ?_;refine xx ?_;refine Z0 fun b2 nb2 zb2=>?_;(try simp only[ZT]at nb2);refine xx ?_;refine Z3 (t:=25) (e:=22) (sz:=1) (bytes:=8) (by kernel_rfl) VZ rfl rfl rfl rfl (by decide) [_,_] L o k (UZ Zi.amt l k) k2 (WL k1) (Src.own List.mem_cons_self) (m:=1) (news:=[.int .u64 (gr ZW l k).amt]) rfl (by intro u hu;simp only[List.mem_singleton]at hu;subst hu;rfl) (by simp [maxLen];omega) (by omega) ?_;intro o' j1 j2 j3;refine xx ?_;refine⟨k+1,o',⟨by omega,j1,ZZ (ZZ j2)⟩,by omega,by simp [Ent,List.lookup],?_⟩;rw[VN ZW c1];exact(Za.tail _ _ _).trans (Za.tail _ _ _)
 ·have hkl:k=l.length:=by omega
  subst hkl;refine xx ?_;exact ZP (hk o k2 k3)
theorem Zb.fin {f:FuncId}{args:List Value}{L:Own}{h:PH}{K:PK}(hs:Zb prog f args L h fun v L' h'=>fin K v L' h'):Zb prog f args L h K :=
 ⟨trivial,fun W hg=>(hs.2 W hg).mono fun e W' ⟨r,L',h',he,⟨L2,h2,hd,hk⟩,st⟩=>by
  obtain⟨g,f⟩:=hd W' st.1;refine⟨r,L2,h2,he,hk,g,st.2.1,fun e he=>?_⟩;obtain⟨e',he',hb⟩:=List.mem_map.1 (f e he)
  rw[← hb];exact st.2.2 e' he'⟩
theorem Wf {v:Value}{h':PH}(le:PH.le h h')(hk:fin K v L h):fin K v L h':=by
 obtain⟨L2,h2,hd,hk⟩:=hk;exact⟨L2,h2,(Za.forget le).trans hd,hk⟩
theorem Zku:tot []=0:=rfl
theorem Znu {l:List Zk}{m:List Zi}(v u:Value)(hv:Zg V1 4 h v l)(hu:Zg YA 3 h u m)(hl:∀x∈l,ZI x)(hm:∀x∈m,Zr x)(nl:l.length≤100000)(nm:m.length≤100000)
  (hk:K (Zqm (tot (l.map Zk.amt++m.map Zi.amt))) L h):Zb prog 292 [v,u] L h K:=by
 have ov:=hv.open;obtain⟨va,vc,rfl,_⟩:=ov;have ou:=hu.open;obtain⟨ua,uc,rfl,_⟩:=ou;refine ZS func292 rfl (rs:=[_,_]) rfl rfl ZY (by kernel_rfl) rfl rfl ?_;refine xx ?_;refine Zdk _ hv nl fun o k1 k2=>?_;refine xx ?_;refine Zde _ hu nm fun o2 j1 j2=>?_;refine xx ?_;have c1:=WL (f:=Zk.amt) (l:=l) (Nat.le_refl _);have c2:=WL (f:=Zi.amt) (l:=m) (Nat.le_refl _);have conv:∀(h':PH) (w:Value),Sl h' w (l.length+m.length) 1 (UZ Zk.amt l l.length++UZ Zi.amt m m.length)→Ints h' .u64 w (l.map Zk.amt++m.map Zi.amt):=fun h' w sl=>by
  refine⟨?_,fun z hz=>?_⟩
  ·simpa [UZ] using sl
  ·rcases List.mem_append.1 hz with hz|hz
   ·obtain⟨x,hx,rfl⟩:=List.mem_map.1 hz;exact(hl x hx).a
   ·obtain⟨x,hx,rfl⟩:=List.mem_map.1 hz;exact(hm x hx).a
 cases o2 with
 | none =>
  have hm0:m.length=0:=j1;have hm0':m=[]:=List.eq_nil_of_length_eq_zero hm0;subst hm0';have hk:K (Zqm (tot (l.map Zk.amt))) L h:=by simpa using hk
  simp only[oent,ovs];refine Z3 (t:=25) (e:=22) (sz:=1) (bytes:=8) (by kernel_rfl) VZ rfl rfl rfl rfl (by decide) [] L o l.length (UZ Zk.amt l l.length) k1 c1 (Src.known (n:=0) (sz:=1) (cs:=[]) (Wx h .u64).1) (m:=0) (news:=[]) rfl (by simp) (by simp [maxLen];omega) (by omega) ?_;intro o' i1 i2 i3;refine xx ?_;refine W8 (n:=l.length) i1 (by simpa using c1) (by omega) i2 fun h' le sl=>?_;refine WK (zs:=l.map Zk.amt) _ (by simpa using conv h' _ (by simpa [UZ] using sl)) ?_;by_cases c:tot (l.map Zk.amt)≤18446744073709551615
  ·rw[YK c]at hk ⊢;refine xx ?_;exact Wf le (ZP hk)
  ·rw[Wl c]at hk ⊢;refine xx ?_;exact Wf le (ZP hk)
 | some p =>
  obtain⟨b2,cap2⟩:=p;simp only[oent,ovs];refine Z3 (t:=25) (e:=22) (sz:=1) (bytes:=8) (by kernel_rfl) VZ rfl rfl rfl rfl (by decide) [_] L o l.length (UZ Zk.amt l l.length) k1 c1 (Src.own List.mem_cons_self) (m:=m.length) (news:=UZ Zi.amt m m.length) c2 (by intro u hu;simp only[UZ,List.mem_map]at hu;obtain⟨_,_,rfl⟩:=hu;rfl) (by simp [maxLen];omega) (by omega) ?_;intro o' i1 i2 i3;refine xx ?_;refine J6 (W8 (n:=l.length+m.length) i1 (by rw[List.length_append,c1,c2];omega) (by omega) (ZZ i2) fun h' le sl=>?_);refine WK _ (conv h' _ sl) ?_;by_cases c:tot (l.map Zk.amt++m.map Zi.amt)≤18446744073709551615
  ·rw[YK c]at hk ⊢;refine xx ?_;exact Wf le (ZP hk)
  ·rw[Wl c]at hk ⊢;refine xx ?_;exact Wf le (ZP hk)
def Zqy (s:Ze):Int:=tot (s.members.map Zc.bal)
def Zqq (s:Ze):Int:=tot s.purses
def GM (s:Ze):Int:=tot (s.pool.map Zk.amt)
def Zso (s:Ze):Int:=tot (s.dues.map Zi.amt)
def Zia (n:Int):Int:=if n≤18446744073709551615 then 0 else 10
theorem Uy (n:Int):Zqm n = .tuple #[.int .u64 (if n≤18446744073709551615 then n else 0),.int .i64 (Zia n)]:=by
 unfold Zqm Zia;split<;>rfl
structure Zw (s:Ze):Prop where
 p:s.purses.length≤100000
 m:s.members.length≤100000
 e:s.entry.length≤100000
 x:s.exit.length≤100000
 o:s.pool.length≤100000
 d:s.dues.length≤100000
 t:s.motions.length≤100000
 r:s.ring.length≤100000
theorem Yed (a b c d e:Int):tot [a,b,c,d,e]=a+b+c+d+e:=by simp [tot,YL,at0]
theorem Zwe (a b:Int):tot [a,b]=a+b:=by simp [tot,YL,at0]
theorem YE {zs:List Int}(h0:∀i,0≤at0 zs i):0≤tot zs:=VK h0 _
def U4 (s:Ze):Bool:=decide (Zqy s≤18446744073709551615)&&decide (Zqq s≤18446744073709551615)&&decide (GM s≤18446744073709551615)&&decide (Zso s≤18446744073709551615)
def Zit (s:Ze):Value:=if U4 s then .tuple #[.agg #[.int .u64 (Zqy s),.int .u64 (Zqq s),.int .u64 (GM s),.int .u64 (Zso s),.int .u64 s.treas],.int .i64 0] else .tuple #[.agg #[.int .u64 0,.int .u64 0,.int .u64 0,.int .u64 0,.int .u64 0],.int .i64 10]
theorem Ydq (a b c d:Int):([Zia a,Zia b,Zia c,Zia d].all fun z=>decide (z=0))=(decide (a≤18446744073709551615)&&decide (b≤18446744073709551615)&&decide (c≤18446744073709551615)&&decide (d≤18446744073709551615)):=by
 have e:∀n,decide (Zia n=0)=decide (n≤18446744073709551615):=fun n=>by unfold Zia;split<;>simp [*]
 simp only[List.all_cons,List.all_nil,e,Bool.and_true,Bool.and_assoc]
theorem Zvn {s:Ze}(v:SV)(hs:Zn h v s)(few:Zw s)(hk:K (Zit s) L h):Zb prog 177 [stV s v] L h K:=by
 obtain⟨pa,pc,hp,_⟩:=hs.p.open;obtain⟨ma,mc,hm,_⟩:=hs.m.open;obtain⟨oa,oc,ho,_⟩:=hs.o.open;obtain⟨da,dc,hd,_⟩:=hs.d.open;refine ZS func177 rfl (rs:=[_,_]) rfl rfl ZY (by kernel_rfl) rfl rfl ?_;refine xx ?_;refine Z0 fun b1 nb1 zb1=>?_;(try simp only[ZT]at nb1);refine xx ?_;refine Z0 fun b2 nb2 zb2=>?_;(try simp only[ZT]at nb2);refine xx ?_;refine Zb.apn (Zhd _ hs.m hs.mo few.m fun h1 r1 le1 i1 ap nd=>?_);obtain⟨ap1,ap2,ap3⟩:=ap;refine xx ?_;refine WK _ i1 ?_;rw[Uy];refine xx ?_;refine Ydm _ (hs.p.up le1) ?_;rw[Uy];refine xx ?_;refine Znu _ _ (hs.o.up le1) (Zg.nil Yw h1) hs.oo (fun x hx=>by cases hx) few.o (by simp) ?_;simp only[List.map_nil,List.append_nil];rw[Uy];refine xx ?_;refine Znu _ _ (Zg.nil V4 h1) (hs.d.up le1) (fun x hx=>by cases hx) hs.dd (by simp) few.d ?_;simp only[List.map_nil,List.nil_append];rw[Uy];refine xx ?_;refine Z0 fun b3 nb3 zb3=>?_;(try simp only[ZT]at nb3);refine xx ?_;refine Yg (sz:=1) (n:=4) (cap:=4) [] ⟨Nat.le_refl _,by decide⟩ rfl (by decide) zb3 fun h2 le2 s2 f2=>?_;have q1:h2 b2=noC:=by rw[f2 _ nb3.1];exact ap1
 have q2:h2 b1=noC:=by rw[f2 _ nb3.2.1];exact ap2
 refine Zhn (zs:=[Zia (Zqy s),Zia (Zqq s),Zia (GM s),Zia (Zso s)]) _ ⟨s2,fun z hz=>?_⟩ ?_
 ·simp only[List.mem_cons,List.not_mem_nil,or_false]at hz;rcases hz with rfl|rfl|rfl|rfl<;>(unfold Zia;split<;>decide)
 rw[Ydq]
 cases hB:U4 s with
 | false =>
  rw[Zit,if_neg (by rw[hB];exact Bool.false_ne_true)]at hk;rw[U4]at hB;rw[hB];simp only[List.nil_append];refine xx ?_;exact ZO (ZO (Wf (le1.trans le2) (ZP hk)))
 | true =>
  rw[Zit,if_pos hB]at hk;rw[U4]at hB;rw[hB];simp only[U4,Bool.and_eq_true,decide_eq_true_eq]at hB;obtain⟨⟨⟨e1,e2⟩,e3⟩,e4⟩:=hB;simp only[Zqy,Zqq,GM,Zso]at e1 e2 e3 e4 hk;simp only[if_pos e1,if_pos e2,if_pos e3,if_pos e4];simp only[List.nil_append];refine xx ?_;exact ZO (ZO (Wf (le1.trans le2) (ZP hk)))
theorem Zyz (a b c d e:Int)(ha:0≤a∧a≤18446744073709551615)(hb:0≤b∧b≤18446744073709551615)(hc:0≤c∧c≤18446744073709551615)(hd:0≤d∧d≤18446744073709551615)(he:0≤e∧e≤18446744073709551615)
  (hk:K (Zqm (a+b+c+d+e)) L h):Zb prog 179 [.agg #[.int .u64 a,.int .u64 b,.int .u64 c,.int .u64 d,.int .u64 e]] L h K:=by
 rw[Uy]at hk;refine ZS func179 rfl (rs:=[_,_]) rfl rfl ZY (by kernel_rfl) rfl rfl ?_;refine xx ?_;refine Z0 fun b1 nb1 zb1=>?_;(try simp only[ZT]at nb1);refine xx ?_;refine Z0 fun b2 nb2 zb2=>?_;(try simp only[ZT]at nb2);refine xx ?_;refine Yg (sz:=1) (n:=5) (cap:=5) [] ⟨Nat.le_refl _,by decide⟩ rfl (by decide) zb2 fun h2 le2 s2 f2=>?_;refine WK (zs:=[a,b,c,d,e]) _ ⟨s2,fun z hz=>?_⟩ ?_
 ·simp only[List.mem_cons,List.not_mem_nil,or_false]at hz;rcases hz with rfl|rfl|rfl|rfl|rfl<;>assumption
 rw[Yed,Uy];simp only[List.nil_append];refine xx ?_;exact ZO (Wf le2 (ZP hk))
def Zki (s:Ze):Int:=Zqy s+Zqq s+GM s+Zso s+s.treas
def Wi (s:Ze):Bool:=decide (s.gen+s.mint≤s.most)&&decide (s.most≤4611686018427387904)&&decide (Zki s+s.burn=s.gen+s.mint)
theorem UJ {α:Type}(f:α→Int)(l:List α)(hm:∀x∈l,0≤f x)(i:Nat):0≤at0 (l.map f) i:=by
 unfold at0;by_cases hi:i<l.length
 ·rw[List.getD_eq_getElem?_getD,List.getElem?_map,List.getElem?_eq_getElem hi];exact hm _ (List.getElem_mem hi)
 ·rw[List.getD_eq_getElem?_getD,List.getElem?_map,List.getElem?_eq_none (by omega)];exact Int.le_refl _
theorem Zn.parts {v:SV}{s:Ze}(hs:Zn h v s):0≤Zqy s∧0≤Zqq s∧0≤GM s∧0≤Zso s :=
 ⟨YE fun i=>UJ _ _ (fun x hx=>((hs.mo x hx).u _ (by simp)).1) i,YE fun i=>(hs.p.word i).1,YE fun i=>UJ _ _ (fun x hx=>(hs.oo x hx).a.1) i,YE fun i=>UJ _ _ (fun x hx=>(hs.dd x hx).a.1) i⟩
theorem Zvo {s:Ze}(v:SV)(hs:Zn h v s)(few:Zw s)(hk:K (.bool (Wi s)) L h):Zb prog 66 [stV s v] L h K:=by
 obtain⟨p1,p2,p3,p4⟩:=hs.parts;have um:0≤s.most∧s.most≤18446744073709551615:=hs.ok.u _ (by simp);have ug:0≤s.gen∧s.gen≤18446744073709551615:=hs.ok.u _ (by simp);have ui:0≤s.mint∧s.mint≤18446744073709551615:=hs.ok.u _ (by simp);have ub:0≤s.burn∧s.burn≤18446744073709551615:=hs.ok.u _ (by simp);have ut:0≤s.treas∧s.treas≤18446744073709551615:=hs.ok.u _ (by simp);obtain⟨pa,pc,hp,_⟩:=hs.p.open;refine ZS func66 rfl (rs:=[_]) rfl rfl ZY (by kernel_rfl) rfl rfl ?_;refine xx ?_;refine Z0 fun b1 nb1 zb1=>?_;(try simp only[ZT]at nb1);refine xx ?_;refine Zvn v hs few ?_;have hS:Zki s=Zqy s+Zqq s+GM s+Zso s+s.treas:=rfl;by_cases c1:U4 s=true
 ·rw[Zit,if_pos c1];simp only[U4,Bool.and_eq_true,decide_eq_true_eq]at c1;obtain⟨⟨⟨e1,e2⟩,e3⟩,e4⟩:=c1;refine xx ?_;refine Z0 fun b2 nb2 zb2=>?_;(try simp only[ZT]at nb2);refine xx ?_;by_cases c2:4611686018427387904<s.most
  ·rw[show Wi s=false by simp only[Wi];rw[decide_eq_false (show ¬s.most≤4611686018427387904 by omega)];simp]at hk;refine xx ?_;exact ZO (ZO (ZP hk))
  ·refine xx ?_;refine Z0 fun b3 nb3 zb3=>?_;(try simp only[ZT]at nb3);refine xx ?_;refine Yg (sz:=1) (n:=2) (cap:=2) [] ⟨Nat.le_refl _,by decide⟩ rfl (by decide) zb3 fun h2 le2 s2 f2=>?_;have q1:h2 b2=noC:=by rw[f2 _ nb3.1];exact zb2
   have q2:h2 b1=noC:=by rw[f2 _ nb3.2.1];exact zb1
   refine Zbg (zs:=[s.gen,s.mint]) s.most _ ⟨s2,fun z hz=>?_⟩ um.2 ?_
   ·simp only[List.mem_cons,List.not_mem_nil,or_false]at hz;rcases hz with rfl|rfl<;>assumption
   rw[Zwe];simp only[List.nil_append];by_cases c3:s.gen+s.mint≤s.most
   ·rw[decide_eq_true c3];refine xx ?_;refine Zyz _ _ _ _ _ ⟨p1,e1⟩ ⟨p2,e2⟩ ⟨p3,e3⟩ ⟨p4,e4⟩ ut ?_;rw[← hS];by_cases c4:Zki s≤18446744073709551615
    ·rw[YK c4];refine xx ?_;refine WM _ _ ⟨by omega,c4⟩ ub ?_;rw[Uy];refine xx ?_;refine WM _ _ ug ui ?_;rw[YK (show s.gen+s.mint≤18446744073709551615 by omega)];refine xx ?_;refine Z0 fun b4 nb4 zb4=>?_;(try simp only[ZT]at nb4);refine xx ?_;refine Yg (sz:=1) (n:=2) (cap:=2) [] ⟨Nat.le_refl _,by decide⟩ rfl (by decide) zb4 fun h3 le3 s3 f3=>?_;refine Zhn (zs:=[Zia (Zki s+s.burn),0]) _ ⟨s3,fun z hz=>?_⟩ ?_
     ·simp only[List.mem_cons,List.not_mem_nil,or_false]at hz;rcases hz with rfl|rfl
      ·unfold Zia;split<;>decide
      ·decide
     simp only[List.nil_append,List.all_cons,List.all_nil,Bool.and_true];by_cases c5:Zki s+s.burn≤18446744073709551615
     ·have:Wi s=decide (Zki s+s.burn=s.gen+s.mint):=by simp only[Wi,decide_eq_true c3,decide_eq_true (show s.most≤4611686018427387904 by omega),Bool.true_and]
      rw[this]at hk;simp only[Zia,if_pos c5,decide_true];refine xx ?_;exact ZO (ZO (Wf (le2.trans le3) (ZP hk)))
     ·have:Wi s=false:=by simp only[Wi];rw[decide_eq_false (show ¬Zki s+s.burn=s.gen+s.mint by omega)];simp
      rw[this]at hk;simp only[Zia,if_neg c5];refine xx ?_;exact ZO (ZO (Wf (le2.trans le3) (ZP hk)))
    ·have:Wi s=false:=by simp only[Wi];rw[decide_eq_false (show ¬Zki s+s.burn=s.gen+s.mint by omega)];simp
     rw[this]at hk;rw[Wl c4];refine xx ?_;exact ZO (ZO (Wf le2 (ZP hk)))
   ·have:Wi s=false:=by simp only[Wi];rw[decide_eq_false c3];simp
    rw[this]at hk;rw[decide_eq_false c3];refine xx ?_;exact ZO (ZO (Wf le2 (ZP hk)))
 ·have:Wi s=false:=by
   have hn:¬(Zqy s≤18446744073709551615∧Zqq s≤18446744073709551615∧GM s≤18446744073709551615∧Zso s≤18446744073709551615):=fun⟨a,b,c,d⟩=>c1 (by simp [U4,a,b,c,d]);simp only[Wi];by_cases a:s.gen+s.mint≤s.most
   ·by_cases b:s.most≤4611686018427387904
    ·rw[decide_eq_false (show ¬Zki s+s.burn=s.gen+s.mint by omega)];simp
    ·simp [b]
   ·simp [a]
  rw[this]at hk;rw[Zit,if_neg c1];refine xx ?_;refine Z0 fun b2 nb2 zb2=>?_;(try simp only[ZT]at nb2);refine xx ?_;exact ZO (ZO (ZP hk))
end Go.X
