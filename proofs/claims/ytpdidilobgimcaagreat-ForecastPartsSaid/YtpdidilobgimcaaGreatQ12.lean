/- Lemmas and contracts. Conditions: as each says. -/
import Derived.Laws.Externs
import Derived.Test.YtpdidilobgimcaaGreatQ11
set_option linter.unusedVariables false
set_option linter.unusedSimpArgs false
set_option maxHeartbeats 12800000
set_option maxRecDepth 20000
namespace Go.X
open Go.RowKit Go.Proofs Go.Bl Go.Proofs.Tryz
variable {L:Own} {h:PH} {K:PK}
def YD (zs:List Int):Nat→Int
 | 0=>0
 | k+1=>YD zs k+at0 zs k
def tot (zs:List Int):Int:=YD zs zs.length
theorem Jk {zs:List Int}(h0:∀i,0≤at0 zs i):∀ {k m:Nat},k≤m→YD zs k≤YD zs m:=fun {k m} hkm=>by
  induction m with
  | zero => have : k = 0 := by omega
            subst this;exact Int.le_refl _
  | succ m ih =>
    by_cases e:k=m+1
    · subst e;exact Int.le_refl _
    · have:=ih (by omega);have:=h0 m;simp only[YD];omega
theorem W8 {zs:List Int}(h0:∀i,0≤at0 zs i)(k:Nat):0≤YD zs k:=by
 have:=Jk h0 (Nat.zero_le k)
 simpa [YD] using this
def Zoz (n:Int):Value:=if n≤18446744073709551615 then .tuple #[.int .u64 n,.int .i64 0] else .tuple #[.int .u64 0,.int .i64 10]
theorem YA {n:Int}(c:n≤18446744073709551615):Zoz n = .tuple #[.int .u64 n,.int .i64 0]:=by simp [Zoz,c]
theorem Wd {n:Int}(c:¬n≤18446744073709551615):Zoz n = .tuple #[.int .u64 0,.int .i64 10]:=by simp [Zoz,c]
theorem Zty (x y:Int)(hx:0≤x)(hy:0≤y)(hk:K (.tuple #[.int .u64 ((x+y)%18446744073709551616),.int .u64 ((x+y)/18446744073709551616)]) L h):Zb prog 293 [.int .u64 x,.int .u64 y,.int .u64 0] L h K :=
 Zb.extern (fun W=>by
  show (callFunc 293 #[.int .u64 x,.int .u64 y,.int .u64 0]).run prog W=_;rw[run_callFunc_extern func293 (by kernel_rfl) (by kernel_rfl) (by kernel_rfl) (e:=add64Entry) (by kernel_rfl),run_add64 x y 0 hx hy (by decide) (by decide),Int.add_zero]
  rfl) hk
theorem Wy (x y:Int)(hx:0≤x∧x≤18446744073709551615)(hy:0≤y∧y≤18446744073709551615)(hk:K (Zoz (x+y)) L h):Zb prog 180 [.int .u64 x,.int .u64 y] L h K:=by
 refine ZT func180 rfl (rs:=[_,_]) rfl rfl ZW (by kernel_rfl) rfl rfl ?_;refine xx ?_;refine Zty x y hx.1 hy.1 ?_;by_cases c:x+y≤18446744073709551615
 ·have e1:(x+y)%18446744073709551616=x+y:=by omega
  have e2:(x+y)/18446744073709551616=0:=by omega
  rw[YA c]at hk;rw[e1,e2];refine xx ?_;exact ZP hk
 ·have e2:(x+y)/18446744073709551616=1:=by omega
  rw[Wd c]at hk;rw[e2];refine xx ?_;exact ZP hk
theorem Wo {zs:List Int}(v:Value)(hz:Ints h .u64 v zs)(hk:K (Zoz (tot zs)) L h):Zb prog 165 [v] L h K:=by
 have hw:=hz.word;have h0:∀i,0≤at0 zs i:=fun i=>(hw i).1;obtain⟨a,c,rfl,hn,hc,_,hcs⟩:=hz.open;refine ZT func165 rfl (rs:=[_,_]) rfl rfl ZW (by kernel_rfl) rfl rfl ?_;refine xx ?_;refine Wv (0:Nat) (fun k=>k≤zs.length∧YD zs k≤18446744073709551615) (fun k=>[(11,.int .i64 k),(10,.int .i64 zs.length),(9,.slice a zs.length c),(4,.int .u64 (YD zs k))]) (fun k=>zs.length-k) ?_ ?_ ?_
 ·exact⟨Nat.zero_le _,by simp [YD]⟩
 ·simp [Ent,List.lookup,Wc,YD]
 rintro k ⟨k1,k2⟩;by_cases c1:k<zs.length
 ·have hs:=W8 h0 k;simp -dsimp -implicitDefEqProofs (disch:=first|with_reducible assumption|omega) [go_sem,idx hcs];refine Wy _ _ ⟨hs,k2⟩ (hw k) ?_;by_cases c2:YD zs k+at0 zs k≤18446744073709551615
  ·rw[YA c2];refine xx ?_;exact⟨k+1,⟨by omega,c2⟩,by omega,by simp [Ent,List.lookup,YD],Za.refl _ _⟩
  ·have:=Jk h0 (show k+1≤zs.length by omega);rw[Wd (show ¬tot zs≤18446744073709551615 by simp only[YD,tot]at *;omega)]at hk;rw[Wd c2];refine xx ?_;exact ZP hk
 ·have hkl:k=zs.length:=by omega
  subst hkl;rw[YA (n:=tot zs) k2]at hk;refine xx ?_;exact ZP hk
theorem Zym {zs:List Int}(v:Value)(hz:Ints h .u64 v zs)(hk:K (Zoz (tot zs)) L h):Zb prog 291 [v] L h K:=by
 refine ZT func291 rfl (rs:=[_,_]) rfl rfl ZW (by kernel_rfl) rfl rfl ?_;refine xx ?_;refine Wo v hz ?_;by_cases c:tot zs≤18446744073709551615
 ·rw[YA c]at hk ⊢;refine xx ?_;exact ZP hk
 ·rw[Wd c]at hk ⊢;refine xx ?_;exact ZP hk
theorem Zal {zs:List Int}(most:Int)(v:Value)(hz:Ints h .u64 v zs)(hm:most≤18446744073709551615)(hk:K (.bool (decide (tot zs≤most))) L h):Zb prog 178 [.int .u64 most,v] L h K:=by
 refine ZT func178 rfl (rs:=[_]) rfl rfl ZW (by kernel_rfl) rfl rfl ?_;refine xx ?_;refine Wo v hz ?_;by_cases c:tot zs≤18446744073709551615
 ·rw[YA c];refine xx ?_;exact ZP hk
 ·rw[decide_eq_false (show ¬tot zs≤most by omega)]at hk;rw[Wd c];refine xx ?_;exact ZP hk
theorem Zeo {zs:List Int}(v:Value)(hz:Ints h .i64 v zs)(hk:K (.bool (zs.all fun z=>decide (z=0))) L h):Zb prog 181 [v] L h K:=by
 obtain⟨a,c,rfl,hn,hc,_,hcs⟩:=hz.open;refine ZT func181 rfl (rs:=[_]) rfl rfl ZW (by kernel_rfl) rfl rfl ?_;refine xx ?_;refine Wv (0:Nat) (fun k=>k≤zs.length∧∀j,j<k→at0 zs j=0) (fun k=>[(7,.int .i64 k),(6,.int .i64 zs.length),(5,.slice a zs.length c)]) (fun k=>zs.length-k) ?_ ?_ ?_
 ·exact⟨Nat.zero_le _,fun j hj=>by omega⟩
 ·simp [Ent,List.lookup,Wc]
 rintro k ⟨k1,k2⟩;by_cases c1:k<zs.length
 ·by_cases c2:at0 zs k=0
  ·simp -dsimp -implicitDefEqProofs (disch:=first|with_reducible assumption|omega) [go_sem,idx hcs];refine⟨k+1,⟨by omega,fun j hj=>?_⟩,by omega,by simp [Ent,List.lookup],Za.refl _ _⟩;by_cases e:j=k
   ·subst e;exact c2
   ·exact k2 j (by omega)
  ·have:(zs.all fun z=>decide (z=0))=false:=by
    rw[List.all_eq_false];exact⟨zs[k],List.getElem_mem c1,by simp [Yi,c2]⟩
   rw[this]at hk;simp -dsimp -implicitDefEqProofs (disch:=first|with_reducible assumption|omega) [go_sem,idx hcs];exact ZP hk
 ·have:(zs.all fun z=>decide (z=0))=true:=by
   rw[List.all_eq_true];intro x hx;obtain⟨j,hj,rfl⟩:=List.mem_iff_getElem.1 hx;simp [Yi,k2 j (by omega)]
  rw[this]at hk;refine xx ?_;exact ZP hk
def Gc {α:Type}(f:α→Int)(l:List α)(k:Nat):List Value:=((l.take k).map f).map (.int .u64)
theorem Vm {α:Type}{f:α→Int}{l:List α}{k:Nat}(hk:k≤l.length):(Gc f l k).length=k*1:=by simp [Gc,hk]
theorem Ju {α:Type}{f:α→Int}{l:List α}{k:Nat}(z:α)(hk:k<l.length):Gc f l (k+1)=Gc f l k++[.int .u64 (f (gr z l k))]:=by
 rw[Z5 hk,Gc,Gc,List.take_succ_eq_append_getElem hk,List.map_append,List.map_append];rfl
theorem Zgo {α:Type}{f:α→Int}{l:List α}{h:PH}{v:Value}(sl:Sl h v l.length 1 (Gc f l l.length))(hm:∀x∈l,0≤f x∧f x≤18446744073709551615):Ints h .u64 v (l.map f):=by
 refine⟨?_,fun z hz=>?_⟩
 ·simpa [Gc] using sl
 ·obtain⟨x,hx,rfl⟩:=List.mem_map.1 hz;exact hm x hx
theorem Zfd {l:List Zc}(v:Value)(hd0:Zg Yw 6 h v l)(hm:∀x∈l,Zf x)(hn:l.length≤100000)(hk:∀h' r,PH.le h h'→Ints h' .u64 r (l.map Zc.bal)→K r L h'):Zb prog 290 [v] L h K:=by
 obtain⟨a,c,rfl,hc,hl,_,hd⟩:=hd0.open;refine ZT func290 rfl (rs:=[_]) rfl rfl ZW (by kernel_rfl) rfl rfl ?_;refine xx ?_;refine YP (γ:=Nat×Option (Nat×Nat)) (0,none) (fun s=>s.1≤l.length∧okO s.2 s.1∧apO s.2 L h) (fun s=>[(8,.int .i64 s.1),(7,.int .i64 l.length),(6,.slice a l.length c),(3,ovs s.2 s.1)])
  (fun s=>oent 22 1 s.2 (Gc Zc.bal l s.1) L) (fun _=>h) (fun s=>l.length-s.1) ?_ ?_ ?_ ?_
 ·exact⟨Nat.zero_le _,rfl,trivial⟩
 ·simp [Ent,List.lookup,Wc,ovs]
 ·exact Za.refl _ _
 rintro⟨k,o⟩ ⟨k1,k2,k3⟩;simp only at k1 k2 k3 ⊢;by_cases c1:k<l.length
 ·simp -dsimp -implicitDefEqProofs (disch:=first|with_reducible assumption|omega) [go_sem,↓Ut ZR (by decide) hd,Yw];refine Z1 fun b1 nb1 zb1=>?_;(try simp only[ZU]at nb1);simp -dsimp -implicitDefEqProofs (disch:=first|with_reducible assumption|omega) [go_sem,Yw];refine Z1 fun b2 nb2 zb2=>?_;(try simp only[ZU]at nb2);simp -dsimp -implicitDefEqProofs (disch:=first|with_reducible assumption|omega) [go_sem,Yw];refine Z3 (t:=25) (e:=22) (sz:=1) (bytes:=8) (by kernel_rfl) Uc rfl rfl rfl rfl (by decide) [_,_] L o k (Gc Zc.bal l k) k2 (Vm k1) (Src.own List.mem_cons_self) (m:=1) (news:=[.int .u64 (gr ZR l k).bal]) rfl (by intro u hu;simp only[List.mem_singleton]at hu;subst hu;rfl) (by simp [maxLen];omega) (by omega) ?_;intro o' j1 j2 j3;refine xx ?_;refine⟨k+1,o',⟨by omega,j1,ZZ (ZZ j2)⟩,by omega,by simp [Ent,List.lookup],?_⟩;rw[Ju ZR c1];exact(Za.tail _ _ _).trans (Za.tail _ _ _)
 ·have hkl:k=l.length:=by omega
  subst hkl;refine xx ?_;exact YG (n:=l.length) k2 (Vm (Nat.le_refl _)) (by omega) k3 fun h' le sl=>ZP (hk h' _ le (Zgo sl fun x hx=>(hm x hx).u _ (by simp)))
theorem Zoe (d:Zn)(hk:K (.int .u64 d.amt) L h):Zb prog 348 [.agg #[.int .i64 d.acct,.int .i64 d.mem,.int .u64 d.amt,.bool d.new]] L h K:=by
 refine ZT func348 rfl (rs:=[_]) rfl rfl ZW (by kernel_rfl) rfl rfl ?_;refine xx ?_;refine Z1 fun b1 nb1 zb1=>?_;(try simp only[ZU]at nb1);refine xx ?_;exact ZO (ZP hk)
theorem Znr (d:Zh)(hk:K (.int .u64 d.amt) L h):Zb prog 350 [.agg #[.int .i64 d.acct,.int .i64 d.at',.int .u64 d.amt]] L h K:=by
 refine ZT func350 rfl (rs:=[_]) rfl rfl ZW (by kernel_rfl) rfl rfl ?_;refine xx ?_;refine Z1 fun b1 nb1 zb1=>?_;(try simp only[ZU]at nb1);refine xx ?_;exact ZO (ZP hk)
theorem Zav {l:List Zn}(v:Value)(hd0:Zg Un 4 h v l)(hn:l.length≤100000)(hk:∀o,okO o l.length→apO o L h→K (ovs o l.length) (oent 22 1 o (Gc Zn.amt l l.length) L) h):Zb prog 347 [v,.func (.func 348) #[] #[]] L h K:=by
 obtain⟨a,c,rfl,hc,hl,_,hd⟩:=hd0.open;refine ZT func347 rfl (rs:=[_]) rfl rfl ZW (by kernel_rfl) rfl rfl ?_;refine xx ?_;refine YP (γ:=Nat×Option (Nat×Nat)) (0,none) (fun s=>s.1≤l.length∧okO s.2 s.1∧apO s.2 L h) (fun s=>[(10,.int .i64 s.1),(9,.int .i64 l.length),(8,.slice a l.length c),(5,ovs s.2 s.1),(1,.func (.func 348) #[] #[])])
  (fun s=>oent 22 1 s.2 (Gc Zn.amt l s.1) L) (fun _=>h) (fun s=>l.length-s.1) ?_ ?_ ?_ ?_
 ·exact⟨Nat.zero_le _,rfl,trivial⟩
 ·simp [Ent,List.lookup,Wc,ovs]
 ·exact Za.refl _ _
 rintro⟨k,o⟩ ⟨k1,k2,k3⟩;simp only at k1 k2 k3 ⊢;by_cases c1:k<l.length
 ·simp -dsimp -implicitDefEqProofs (disch:=first|with_reducible assumption|omega) [go_sem,↓Ut Yv (by decide) hd,Un];refine Z1 fun b1 nb1 zb1=>?_;(try simp only[ZU]at nb1);simp -dsimp -implicitDefEqProofs (disch:=first|with_reducible assumption|omega) [go_sem,Un];refine Zoe (gr Yv l k) ?_;refine xx ?_;refine Z1 fun b2 nb2 zb2=>?_;(try simp only[ZU]at nb2);refine xx ?_;refine Z3 (t:=25) (e:=22) (sz:=1) (bytes:=8) (by kernel_rfl) Uc rfl rfl rfl rfl (by decide) [_,_] L o k (Gc Zn.amt l k) k2 (Vm k1) (Src.own List.mem_cons_self) (m:=1) (news:=[.int .u64 (gr Yv l k).amt]) rfl (by intro u hu;simp only[List.mem_singleton]at hu;subst hu;rfl) (by simp [maxLen];omega) (by omega) ?_;intro o' j1 j2 j3;refine xx ?_;refine⟨k+1,o',⟨by omega,j1,ZZ (ZZ j2)⟩,by omega,by simp [Ent,List.lookup],?_⟩;rw[Ju Yv c1];exact(Za.tail _ _ _).trans (Za.tail _ _ _)
 ·have hkl:k=l.length:=by omega
  subst hkl;refine xx ?_;exact ZP (hk o k2 k3)
theorem Zbd {l:List Zh}(v:Value)(hd0:Zg Yo 3 h v l)(hn:l.length≤100000)(hk:∀o,okO o l.length→apO o L h→K (ovs o l.length) (oent 22 1 o (Gc Zh.amt l l.length) L) h):Zb prog 349 [v,.func (.func 350) #[] #[]] L h K:=by
 obtain⟨a,c,rfl,hc,hl,_,hd⟩:=hd0.open;refine ZT func349 rfl (rs:=[_]) rfl rfl ZW (by kernel_rfl) rfl rfl ?_;refine xx ?_;refine YP (γ:=Nat×Option (Nat×Nat)) (0,none) (fun s=>s.1≤l.length∧okO s.2 s.1∧apO s.2 L h) (fun s=>[(10,.int .i64 s.1),(9,.int .i64 l.length),(8,.slice a l.length c),(5,ovs s.2 s.1),(1,.func (.func 350) #[] #[])])
  (fun s=>oent 22 1 s.2 (Gc Zh.amt l s.1) L) (fun _=>h) (fun s=>l.length-s.1) ?_ ?_ ?_ ?_
 ·exact⟨Nat.zero_le _,rfl,trivial⟩
 ·simp [Ent,List.lookup,Wc,ovs]
 ·exact Za.refl _ _
 rintro⟨k,o⟩ ⟨k1,k2,k3⟩;simp only at k1 k2 k3 ⊢;by_cases c1:k<l.length
 ·simp -dsimp -implicitDefEqProofs (disch:=first|with_reducible assumption|omega) [go_sem,↓Ut ZY (by decide) hd,Yo];refine Z1 fun b1 nb1 zb1=>?_;(try simp only[ZU]at nb1);simp -dsimp -implicitDefEqProofs (disch:=first|with_reducible assumption|omega) [go_sem,Yo];refine Znr (gr ZY l k) ?_;refine xx ?_;refine Z1 fun b2 nb2 zb2=>?_;(try simp only[ZU]at nb2);refine xx ?_;refine Z3 (t:=25) (e:=22) (sz:=1) (bytes:=8) (by kernel_rfl) Uc rfl rfl rfl rfl (by decide) [_,_] L o k (Gc Zh.amt l k) k2 (Vm k1) (Src.own List.mem_cons_self) (m:=1) (news:=[.int .u64 (gr ZY l k).amt]) rfl (by intro u hu;simp only[List.mem_singleton]at hu;subst hu;rfl) (by simp [maxLen];omega) (by omega) ?_;intro o' j1 j2 j3;refine xx ?_;refine⟨k+1,o',⟨by omega,j1,ZZ (ZZ j2)⟩,by omega,by simp [Ent,List.lookup],?_⟩;rw[Ju ZY c1];exact(Za.tail _ _ _).trans (Za.tail _ _ _)
 ·have hkl:k=l.length:=by omega
  subst hkl;refine xx ?_;exact ZP (hk o k2 k3)
theorem Zb.fin {f:FuncId}{args:List Value}{L:Own}{h:PH}{K:PK}(hs:Zb prog f args L h fun v L' h'=>fin K v L' h'):Zb prog f args L h K :=
 ⟨trivial,fun W hg=>(hs.2 W hg).mono fun e W' ⟨r,L',h',he,⟨L2,h2,hd,hk⟩,st⟩=>by
  obtain⟨g,f⟩:=hd W' st.1;refine⟨r,L2,h2,he,hk,g,st.2.1,fun e he=>?_⟩;obtain⟨e',he',hb⟩:=List.mem_map.1 (f e he)
  rw[← hb];exact st.2.2 e' he'⟩
theorem Y0 {v:Value}{h':PH}(le:PH.le h h')(hk:fin K v L h):fin K v L h':=by
 obtain⟨L2,h2,hd,hk⟩:=hk;exact⟨L2,h2,(Za.forget le).trans hd,hk⟩
theorem Zke:tot []=0:=rfl
theorem Zkr {l:List Zn}{m:List Zh}(v u:Value)(hv:Zg Un 4 h v l)(hu:Zg Yo 3 h u m)(hl:∀x∈l,ZH x)(hm:∀x∈m,Zs x)(nl:l.length≤100000)(nm:m.length≤100000)
  (hk:K (Zoz (tot (l.map Zn.amt++m.map Zh.amt))) L h):Zb prog 292 [v,u] L h K:=by
 have ov:=hv.open;obtain⟨va,vc,rfl,_⟩:=ov;have ou:=hu.open;obtain⟨ua,uc,rfl,_⟩:=ou;refine ZT func292 rfl (rs:=[_,_]) rfl rfl ZW (by kernel_rfl) rfl rfl ?_;refine xx ?_;refine Zav _ hv nl fun o k1 k2=>?_;refine xx ?_;refine Zbd _ hu nm fun o2 j1 j2=>?_;refine xx ?_;have c1:=Vm (f:=Zn.amt) (l:=l) (Nat.le_refl _);have c2:=Vm (f:=Zh.amt) (l:=m) (Nat.le_refl _);have conv:∀(h':PH) (w:Value),Sl h' w (l.length+m.length) 1 (Gc Zn.amt l l.length++Gc Zh.amt m m.length)→Ints h' .u64 w (l.map Zn.amt++m.map Zh.amt):=fun h' w sl=>by
  refine⟨?_,fun z hz=>?_⟩
  ·simpa [Gc] using sl
  ·rcases List.mem_append.1 hz with hz|hz
   ·obtain⟨x,hx,rfl⟩:=List.mem_map.1 hz;exact(hl x hx).a
   ·obtain⟨x,hx,rfl⟩:=List.mem_map.1 hz;exact(hm x hx).a
 cases o2 with
 | none =>
  have hm0:m.length=0:=j1;have hm0':m=[]:=List.eq_nil_of_length_eq_zero hm0;subst hm0';have hk:K (Zoz (tot (l.map Zn.amt))) L h:=by simpa using hk
  simp only[oent,ovs];refine Z3 (t:=25) (e:=22) (sz:=1) (bytes:=8) (by kernel_rfl) Uc rfl rfl rfl rfl (by decide) [] L o l.length (Gc Zn.amt l l.length) k1 c1 (Src.known (n:=0) (sz:=1) (cs:=[]) (YX h .u64).1) (m:=0) (news:=[]) rfl (by simp) (by simp [maxLen];omega) (by omega) ?_;intro o' i1 i2 i3;refine xx ?_;refine VO (n:=l.length) i1 (by simpa using c1) (by omega) i2 fun h' le sl=>?_;refine Wo (zs:=l.map Zn.amt) _ (by simpa using conv h' _ (by simpa [Gc] using sl)) ?_;by_cases c:tot (l.map Zn.amt)≤18446744073709551615
  ·rw[YA c]at hk ⊢;refine xx ?_;exact Y0 le (ZP hk)
  ·rw[Wd c]at hk ⊢;refine xx ?_;exact Y0 le (ZP hk)
 | some p =>
  obtain⟨b2,cap2⟩:=p;simp only[oent,ovs];refine Z3 (t:=25) (e:=22) (sz:=1) (bytes:=8) (by kernel_rfl) Uc rfl rfl rfl rfl (by decide) [_] L o l.length (Gc Zn.amt l l.length) k1 c1 (Src.own List.mem_cons_self) (m:=m.length) (news:=Gc Zh.amt m m.length) c2 (by intro u hu;simp only[Gc,List.mem_map]at hu;obtain⟨_,_,rfl⟩:=hu;rfl) (by simp [maxLen];omega) (by omega) ?_;intro o' i1 i2 i3;refine xx ?_;refine Zqw (VO (n:=l.length+m.length) i1 (by rw[List.length_append,c1,c2];omega) (by omega) (ZZ i2) fun h' le sl=>?_);refine Wo _ (conv h' _ sl) ?_;by_cases c:tot (l.map Zn.amt++m.map Zh.amt)≤18446744073709551615
  ·rw[YA c]at hk ⊢;refine xx ?_;exact Y0 le (ZP hk)
  ·rw[Wd c]at hk ⊢;refine xx ?_;exact Y0 le (ZP hk)
def Zwe (s:Ze):Int:=tot (s.members.map Zc.bal)
def Zvd (s:Ze):Int:=tot s.purses
def GM (s:Ze):Int:=tot (s.pool.map Zn.amt)
def Zsc (s:Ze):Int:=tot (s.dues.map Zh.amt)
def Zgj (n:Int):Int:=if n≤18446744073709551615 then 0 else 10
theorem VQ (n:Int):Zoz n = .tuple #[.int .u64 (if n≤18446744073709551615 then n else 0),.int .i64 (Zgj n)]:=by
 unfold Zoz Zgj;split<;>rfl
structure ZC (s:Ze):Prop where
 p:s.purses.length≤100000
 m:s.members.length≤100000
 e:s.entry.length≤100000
 x:s.exit.length≤100000
 o:s.pool.length≤100000
 d:s.dues.length≤100000
 t:s.motions.length≤100000
 r:s.ring.length≤100000
theorem Zzi (a b c d e:Int):tot [a,b,c,d,e]=a+b+c+d+e:=by simp [tot,YD,at0]
theorem Zwd (a b:Int):tot [a,b]=a+b:=by simp [tot,YD,at0]
theorem Yz {zs:List Int}(h0:∀i,0≤at0 zs i):0≤tot zs:=W8 h0 _
def Ux (s:Ze):Bool:=decide (Zwe s≤18446744073709551615)&&decide (Zvd s≤18446744073709551615)&&decide (GM s≤18446744073709551615)&&decide (Zsc s≤18446744073709551615)
def Zgk (s:Ze):Value:=if Ux s then .tuple #[.agg #[.int .u64 (Zwe s),.int .u64 (Zvd s),.int .u64 (GM s),.int .u64 (Zsc s),.int .u64 s.treas],.int .i64 0] else .tuple #[.agg #[.int .u64 0,.int .u64 0,.int .u64 0,.int .u64 0,.int .u64 0],.int .i64 10]
theorem Yav (a b c d:Int):([Zgj a,Zgj b,Zgj c,Zgj d].all fun z=>decide (z=0))=(decide (a≤18446744073709551615)&&decide (b≤18446744073709551615)&&decide (c≤18446744073709551615)&&decide (d≤18446744073709551615)):=by
 have e:∀n,decide (Zgj n=0)=decide (n≤18446744073709551615):=fun n=>by unfold Zgj;split<;>simp [*]
 simp only[List.all_cons,List.all_nil,e,Bool.and_true,Bool.and_assoc]
theorem Zqi {s:Ze}(v:SV)(hs:Zo h v s)(few:ZC s)(hk:K (Zgk s) L h):Zb prog 177 [stV s v] L h K:=by
 obtain⟨pa,pc,hp,_⟩:=hs.p.open;obtain⟨ma,mc,hm,_⟩:=hs.m.open;obtain⟨oa,oc,ho,_⟩:=hs.o.open;obtain⟨da,dc,hd,_⟩:=hs.d.open;refine ZT func177 rfl (rs:=[_,_]) rfl rfl ZW (by kernel_rfl) rfl rfl ?_;refine xx ?_;refine Z1 fun b1 nb1 zb1=>?_;(try simp only[ZU]at nb1);refine xx ?_;refine Z1 fun b2 nb2 zb2=>?_;(try simp only[ZU]at nb2);refine xx ?_;refine Zb.apn (Zfd _ hs.m hs.mo few.m fun h1 r1 le1 i1 ap nd=>?_);obtain⟨ap1,ap2,ap3⟩:=ap;refine xx ?_;refine Wo _ i1 ?_;rw[VQ];refine xx ?_;refine Zym _ (hs.p.up le1) ?_;rw[VQ];refine xx ?_;refine Zkr _ _ (hs.o.up le1) (Zg.nil Yk h1) hs.oo (fun x hx=>by cases hx) few.o (by simp) ?_;simp only[List.map_nil,List.append_nil];rw[VQ];refine xx ?_;refine Zkr _ _ (Zg.nil Vj h1) (hs.d.up le1) (fun x hx=>by cases hx) hs.dd (by simp) few.d ?_;simp only[List.map_nil,List.nil_append];rw[VQ];refine xx ?_;refine Z1 fun b3 nb3 zb3=>?_;(try simp only[ZU]at nb3);refine xx ?_;refine YL (sz:=1) (n:=4) (cap:=4) [] ⟨Nat.le_refl _,by decide⟩ rfl (by decide) zb3 fun h2 le2 s2 f2=>?_;have q1:h2 b2=noC:=by rw[f2 _ nb3.1];exact ap1
 have q2:h2 b1=noC:=by rw[f2 _ nb3.2.1];exact ap2
 refine Zeo (zs:=[Zgj (Zwe s),Zgj (Zvd s),Zgj (GM s),Zgj (Zsc s)]) _ ⟨s2,fun z hz=>?_⟩ ?_
 ·simp only[List.mem_cons,List.not_mem_nil,or_false]at hz;rcases hz with rfl|rfl|rfl|rfl<;>(unfold Zgj;split<;>decide)
 rw[Yav]
 cases hB:Ux s with
 | false =>
  rw[Zgk,if_neg (by rw[hB];exact Bool.false_ne_true)]at hk;rw[Ux]at hB;rw[hB];simp only[List.nil_append];refine xx ?_;exact ZO (ZO (Y0 (le1.trans le2) (ZP hk)))
 | true =>
  rw[Zgk,if_pos hB]at hk;rw[Ux]at hB;rw[hB];simp only[Ux,Bool.and_eq_true,decide_eq_true_eq]at hB;obtain⟨⟨⟨e1,e2⟩,e3⟩,e4⟩:=hB;simp only[Zwe,Zvd,GM,Zsc]at e1 e2 e3 e4 hk;simp only[if_pos e1,if_pos e2,if_pos e3,if_pos e4];simp only[List.nil_append];refine xx ?_;exact ZO (ZO (Y0 (le1.trans le2) (ZP hk)))
theorem Zur (a b c d e:Int)(ha:0≤a∧a≤18446744073709551615)(hb:0≤b∧b≤18446744073709551615)(hc:0≤c∧c≤18446744073709551615)(hd:0≤d∧d≤18446744073709551615)(he:0≤e∧e≤18446744073709551615)
  (hk:K (Zoz (a+b+c+d+e)) L h):Zb prog 179 [.agg #[.int .u64 a,.int .u64 b,.int .u64 c,.int .u64 d,.int .u64 e]] L h K:=by
 rw[VQ]at hk;refine ZT func179 rfl (rs:=[_,_]) rfl rfl ZW (by kernel_rfl) rfl rfl ?_;refine xx ?_;refine Z1 fun b1 nb1 zb1=>?_;(try simp only[ZU]at nb1);refine xx ?_;refine Z1 fun b2 nb2 zb2=>?_;(try simp only[ZU]at nb2);refine xx ?_;refine YL (sz:=1) (n:=5) (cap:=5) [] ⟨Nat.le_refl _,by decide⟩ rfl (by decide) zb2 fun h2 le2 s2 f2=>?_;refine Wo (zs:=[a,b,c,d,e]) _ ⟨s2,fun z hz=>?_⟩ ?_
 ·simp only[List.mem_cons,List.not_mem_nil,or_false]at hz;rcases hz with rfl|rfl|rfl|rfl|rfl<;>assumption
 rw[Zzi,VQ];simp only[List.nil_append];refine xx ?_;exact ZO (Y0 le2 (ZP hk))
def Zpt (s:Ze):Int:=Zwe s+Zvd s+GM s+Zsc s+s.treas
def WL (s:Ze):Bool:=decide (s.gen+s.mint≤s.most)&&decide (s.most≤4611686018427387904)&&decide (Zpt s+s.burn=s.gen+s.mint)
theorem VN {α:Type}(f:α→Int)(l:List α)(hm:∀x∈l,0≤f x)(i:Nat):0≤at0 (l.map f) i:=by
 unfold at0;by_cases hi:i<l.length
 ·rw[List.getD_eq_getElem?_getD,List.getElem?_map,List.getElem?_eq_getElem hi];exact hm _ (List.getElem_mem hi)
 ·rw[List.getD_eq_getElem?_getD,List.getElem?_map,List.getElem?_eq_none (by omega)];exact Int.le_refl _
theorem Zo.parts {v:SV}{s:Ze}(hs:Zo h v s):0≤Zwe s∧0≤Zvd s∧0≤GM s∧0≤Zsc s :=
 ⟨Yz fun i=>VN _ _ (fun x hx=>((hs.mo x hx).u _ (by simp)).1) i,Yz fun i=>(hs.p.word i).1,Yz fun i=>VN _ _ (fun x hx=>(hs.oo x hx).a.1) i,Yz fun i=>VN _ _ (fun x hx=>(hs.dd x hx).a.1) i⟩
theorem Zro {s:Ze}(v:SV)(hs:Zo h v s)(few:ZC s)(hk:K (.bool (WL s)) L h):Zb prog 66 [stV s v] L h K:=by
 obtain⟨p1,p2,p3,p4⟩:=hs.parts;have um:0≤s.most∧s.most≤18446744073709551615:=hs.ok.u _ (by simp);have ug:0≤s.gen∧s.gen≤18446744073709551615:=hs.ok.u _ (by simp);have ui:0≤s.mint∧s.mint≤18446744073709551615:=hs.ok.u _ (by simp);have ub:0≤s.burn∧s.burn≤18446744073709551615:=hs.ok.u _ (by simp);have ut:0≤s.treas∧s.treas≤18446744073709551615:=hs.ok.u _ (by simp);obtain⟨pa,pc,hp,_⟩:=hs.p.open;refine ZT func66 rfl (rs:=[_]) rfl rfl ZW (by kernel_rfl) rfl rfl ?_;refine xx ?_;refine Z1 fun b1 nb1 zb1=>?_;(try simp only[ZU]at nb1);refine xx ?_;refine Zqi v hs few ?_;have hS:Zpt s=Zwe s+Zvd s+GM s+Zsc s+s.treas:=rfl;by_cases c1:Ux s=true
 ·rw[Zgk,if_pos c1];simp only[Ux,Bool.and_eq_true,decide_eq_true_eq]at c1;obtain⟨⟨⟨e1,e2⟩,e3⟩,e4⟩:=c1;refine xx ?_;refine Z1 fun b2 nb2 zb2=>?_;(try simp only[ZU]at nb2);refine xx ?_;by_cases c2:4611686018427387904<s.most
  ·rw[show WL s=false by simp only[WL];rw[decide_eq_false (show ¬s.most≤4611686018427387904 by omega)];simp]at hk;refine xx ?_;exact ZO (ZO (ZP hk))
  ·refine xx ?_;refine Z1 fun b3 nb3 zb3=>?_;(try simp only[ZU]at nb3);refine xx ?_;refine YL (sz:=1) (n:=2) (cap:=2) [] ⟨Nat.le_refl _,by decide⟩ rfl (by decide) zb3 fun h2 le2 s2 f2=>?_;have q1:h2 b2=noC:=by rw[f2 _ nb3.1];exact zb2
   have q2:h2 b1=noC:=by rw[f2 _ nb3.2.1];exact zb1
   refine Zal (zs:=[s.gen,s.mint]) s.most _ ⟨s2,fun z hz=>?_⟩ um.2 ?_
   ·simp only[List.mem_cons,List.not_mem_nil,or_false]at hz;rcases hz with rfl|rfl<;>assumption
   rw[Zwd];simp only[List.nil_append];by_cases c3:s.gen+s.mint≤s.most
   ·rw[decide_eq_true c3];refine xx ?_;refine Zur _ _ _ _ _ ⟨p1,e1⟩ ⟨p2,e2⟩ ⟨p3,e3⟩ ⟨p4,e4⟩ ut ?_;rw[← hS];by_cases c4:Zpt s≤18446744073709551615
    ·rw[YA c4];refine xx ?_;refine Wy _ _ ⟨by omega,c4⟩ ub ?_;rw[VQ];refine xx ?_;refine Wy _ _ ug ui ?_;rw[YA (show s.gen+s.mint≤18446744073709551615 by omega)];refine xx ?_;refine Z1 fun b4 nb4 zb4=>?_;(try simp only[ZU]at nb4);refine xx ?_;refine YL (sz:=1) (n:=2) (cap:=2) [] ⟨Nat.le_refl _,by decide⟩ rfl (by decide) zb4 fun h3 le3 s3 f3=>?_;refine Zeo (zs:=[Zgj (Zpt s+s.burn),0]) _ ⟨s3,fun z hz=>?_⟩ ?_
     ·simp only[List.mem_cons,List.not_mem_nil,or_false]at hz;rcases hz with rfl|rfl
      ·unfold Zgj;split<;>decide
      ·decide
     simp only[List.nil_append,List.all_cons,List.all_nil,Bool.and_true];by_cases c5:Zpt s+s.burn≤18446744073709551615
     ·have:WL s=decide (Zpt s+s.burn=s.gen+s.mint):=by simp only[WL,decide_eq_true c3,decide_eq_true (show s.most≤4611686018427387904 by omega),Bool.true_and]
      rw[this]at hk;simp only[Zgj,if_pos c5,decide_true];refine xx ?_;exact ZO (ZO (Y0 (le2.trans le3) (ZP hk)))
     ·have:WL s=false:=by simp only[WL];rw[decide_eq_false (show ¬Zpt s+s.burn=s.gen+s.mint by omega)];simp
      rw[this]at hk;simp only[Zgj,if_neg c5];refine xx ?_;exact ZO (ZO (Y0 (le2.trans le3) (ZP hk)))
    ·have:WL s=false:=by simp only[WL];rw[decide_eq_false (show ¬Zpt s+s.burn=s.gen+s.mint by omega)];simp
     rw[this]at hk;rw[Wd c4];refine xx ?_;exact ZO (ZO (Y0 le2 (ZP hk)))
   ·have:WL s=false:=by simp only[WL];rw[decide_eq_false c3];simp
    rw[this]at hk;rw[decide_eq_false c3];refine xx ?_;exact ZO (ZO (Y0 le2 (ZP hk)))
 ·have:WL s=false:=by
   have hn:¬(Zwe s≤18446744073709551615∧Zvd s≤18446744073709551615∧GM s≤18446744073709551615∧Zsc s≤18446744073709551615):=fun⟨a,b,c,d⟩=>c1 (by simp [Ux,a,b,c,d]);simp only[WL];by_cases a:s.gen+s.mint≤s.most
   ·by_cases b:s.most≤4611686018427387904
    ·rw[decide_eq_false (show ¬Zpt s+s.burn=s.gen+s.mint by omega)];simp
    ·simp [b]
   ·simp [a]
  rw[this]at hk;rw[Zgk,if_neg c1];refine xx ?_;refine Z1 fun b2 nb2 zb2=>?_;(try simp only[ZU]at nb2);refine xx ?_;exact ZO (ZO (ZP hk))
def pv (ds:List Int):Nat→Int
 | 0=>0
 | k+1=>pv ds k+at0 ds k*10 ^ k
def Dg (ds:List Int):Prop:=∀j,0≤at0 ds j∧at0 ds j≤9
def vl (ds:List Int):Int:=pv ds ds.length
theorem p10 (k:Nat):(0:Int)<10 ^ k:=Int.pow_pos (by decide)
theorem WY (ds:List Int)(j:Nat)(s:Int)(i:Nat)(hj:j<ds.length):at0 (ds.set j s) i=if i=j then s else at0 ds i:=by
 simp only[at0,List.getD_eq_getElem?_getD,List.getElem?_set];by_cases e:i=j
 ·subst e;simp [hj]
 ·simp [e,Ne.symm e]
theorem Dg.set {ds:List Int}(hd:Dg ds)(j:Nat)(s:Int)(hj:j<ds.length)(h0:0≤s)(h1:s≤9):Dg (ds.set j s):=by
 intro i;rw[WY ds j s i hj];split
 ·exact⟨h0,h1⟩
 ·exact hd i
theorem Znb (ds:List Int)(s:Int)(i:Nat):at0 (ds++[s]) i=if i<ds.length then at0 ds i else if i=ds.length then s else 0:=by
 simp only[at0,List.getD_eq_getElem?_getD];by_cases e:i<ds.length
 ·simp [e,List.getElem?_append_left e]
 ·rw[if_neg e,List.getElem?_append_right (by omega)];by_cases e2:i=ds.length
  ·subst e2;simp
  ·rw[if_neg e2,List.getElem?_eq_none (by simp;omega)];rfl
theorem Dg.append {ds:List Int}(hd:Dg ds){s:Int}(h0:0≤s)(h1:s≤9):Dg (ds++[s]):=by
 intro i;rw[Znb];have:=hd i;split
 ·exact this
 ·split
  ·exact⟨h0,h1⟩
  ·omega
def Nt (h:PH)(v:Value)(n:Int)(m:Nat):Prop:=∃s ds,v = .agg #[s]∧Ints h .i64 s ds∧Dg ds∧vl ds=n∧ds.length≤m
theorem Nt.up {h h':PH}(le:PH.le h h'){v:Value}{n:Int}{m:Nat}(hs:Nt h v n m):Nt h' v n m:=by
 obtain⟨s,ds,h1,h2,h3⟩:=hs;exact⟨s,ds,h1,h2.up le,h3⟩
theorem Yas (ds:List Int)(k j:Nat):at0 (ds.take k) j=if j<k then at0 ds j else 0:=by
 simp only[at0,List.getD_eq_getElem?_getD,List.getElem?_take];split<;>rfl
end Go.X
