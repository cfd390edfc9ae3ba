/- Lemmas and contracts. Conditions: as each says. -/
import Derived.Laws.Externs
import Derived.Test.YtpdidilobgimcaaGreatQ09
set_option linter.unusedVariables false
set_option linter.unusedSimpArgs false
set_option maxHeartbeats 12800000
set_option maxRecDepth 20000
namespace Go.X
open Go.RowKit Go.Proofs Go.Bl Go.Proofs.Tryz
variable {L:Own} {h:PH} {K:PK}
def YF (zs:List Int):Nat→Int
 | 0=>0
 | k+1=>YF zs k+at0 zs k
def tot (zs:List Int):Int:=YF zs zs.length
theorem Jt {zs:List Int}(h0:∀i,0≤at0 zs i):∀ {k m:Nat},k≤m→YF zs k≤YF zs m:=fun {k m} hkm=>by
  induction m with
  | zero => have : k = 0 := by omega
            subst this;exact Int.le_refl _
  | succ m ih =>
    by_cases e:k=m+1
    · subst e;exact Int.le_refl _
    · have:=ih (by omega);have:=h0 m;simp only[YF];omega
theorem Vg {zs:List Int}(h0:∀i,0≤at0 zs i)(k:Nat):0≤YF zs k:=by
 have:=Jt h0 (Nat.zero_le k)
 simpa [YF] using this
def Zog (n:Int):Value:=if n≤18446744073709551615 then .tuple #[.int .u64 n,.int .i64 0] else .tuple #[.int .u64 0,.int .i64 10]
theorem YC {n:Int}(c:n≤18446744073709551615):Zog n = .tuple #[.int .u64 n,.int .i64 0]:=by simp [Zog,c]
theorem Wh {n:Int}(c:¬n≤18446744073709551615):Zog n = .tuple #[.int .u64 0,.int .i64 10]:=by simp [Zog,c]
theorem Zve (x y:Int)(hx:0≤x)(hy:0≤y)(hk:K (.tuple #[.int .u64 ((x+y)%18446744073709551616),.int .u64 ((x+y)/18446744073709551616)]) L h):Zb prog 293 [.int .u64 x,.int .u64 y,.int .u64 0] L h K :=
 Zb.extern (fun W=>by
  show (callFunc 293 #[.int .u64 x,.int .u64 y,.int .u64 0]).run prog W=_;rw[run_callFunc_extern func293 (by kernel_rfl) (by kernel_rfl) (by kernel_rfl) (e:=add64Entry) (by kernel_rfl),run_add64 x y 0 hx hy (by decide) (by decide),Int.add_zero]
  rfl) hk
theorem WD (x y:Int)(hx:0≤x∧x≤18446744073709551615)(hy:0≤y∧y≤18446744073709551615)(hk:K (Zog (x+y)) L h):Zb prog 180 [.int .u64 x,.int .u64 y] L h K:=by
 refine ZR func180 rfl (rs:=[_,_]) rfl rfl ZW (by kernel_rfl) rfl rfl ?_;refine xx ?_;refine Zve x y hx.1 hy.1 ?_;by_cases c:x+y≤18446744073709551615
 ·have e1:(x+y)%18446744073709551616=x+y:=by omega
  have e2:(x+y)/18446744073709551616=0:=by omega
  rw[YC c]at hk;rw[e1,e2];refine xx ?_;exact ZP hk
 ·have e2:(x+y)/18446744073709551616=1:=by omega
  rw[Wh c]at hk;rw[e2];refine xx ?_;exact ZP hk
theorem Ws {zs:List Int}(v:Value)(hz:Ints h .u64 v zs)(hk:K (Zog (tot zs)) L h):Zb prog 165 [v] L h K:=by
 have hw:=hz.word;have h0:∀i,0≤at0 zs i:=fun i=>(hw i).1;obtain⟨a,c,rfl,hn,hc,_,hcs⟩:=hz.open;refine ZR func165 rfl (rs:=[_,_]) rfl rfl ZW (by kernel_rfl) rfl rfl ?_;refine xx ?_;refine Vk (0:Nat) (fun k=>k≤zs.length∧YF zs k≤18446744073709551615) (fun k=>[(11,.int .i64 k),(10,.int .i64 zs.length),(9,.slice a zs.length c),(4,.int .u64 (YF zs k))]) (fun k=>zs.length-k) ?_ ?_ ?_
 ·exact⟨Nat.zero_le _,by simp [YF]⟩
 ·simp [Ent,List.lookup,Wv,YF]
 rintro k ⟨k1,k2⟩;by_cases c1:k<zs.length
 ·have hs:=Vg h0 k;simp -dsimp -implicitDefEqProofs (disch:=first|with_reducible assumption|omega) [go_sem,idx hcs];refine WD _ _ ⟨hs,k2⟩ (hw k) ?_;by_cases c2:YF zs k+at0 zs k≤18446744073709551615
  ·rw[YC c2];refine xx ?_;exact⟨k+1,⟨by omega,c2⟩,by omega,by simp [Ent,List.lookup,YF],Za.refl _ _⟩
  ·have:=Jt h0 (show k+1≤zs.length by omega);rw[Wh (show ¬tot zs≤18446744073709551615 by simp only[YF,tot]at *;omega)]at hk;rw[Wh c2];refine xx ?_;exact ZP hk
 ·have hkl:k=zs.length:=by omega
  subst hkl;rw[YC (n:=tot zs) k2]at hk;refine xx ?_;exact ZP hk
theorem Yay {zs:List Int}(v:Value)(hz:Ints h .u64 v zs)(hk:K (Zog (tot zs)) L h):Zb prog 291 [v] L h K:=by
 refine ZR func291 rfl (rs:=[_,_]) rfl rfl ZW (by kernel_rfl) rfl rfl ?_;refine xx ?_;refine Ws v hz ?_;by_cases c:tot zs≤18446744073709551615
 ·rw[YC c]at hk ⊢;refine xx ?_;exact ZP hk
 ·rw[Wh c]at hk ⊢;refine xx ?_;exact ZP hk
theorem G7 {zs:List Int}(most:Int)(v:Value)(hz:Ints h .u64 v zs)(hm:most≤18446744073709551615)(hk:K (.bool (decide (tot zs≤most))) L h):Zb prog 178 [.int .u64 most,v] L h K:=by
 refine ZR func178 rfl (rs:=[_]) rfl rfl ZW (by kernel_rfl) rfl rfl ?_;refine xx ?_;refine Ws v hz ?_;by_cases c:tot zs≤18446744073709551615
 ·rw[YC c];refine xx ?_;exact ZP hk
 ·rw[decide_eq_false (show ¬tot zs≤most by omega)]at hk;rw[Wh c];refine xx ?_;exact ZP hk
theorem Zhk {zs:List Int}(v:Value)(hz:Ints h .i64 v zs)(hk:K (.bool (zs.all fun z=>decide (z=0))) L h):Zb prog 181 [v] L h K:=by
 obtain⟨a,c,rfl,hn,hc,_,hcs⟩:=hz.open;refine ZR func181 rfl (rs:=[_]) rfl rfl ZW (by kernel_rfl) rfl rfl ?_;refine xx ?_;refine Vk (0:Nat) (fun k=>k≤zs.length∧∀j,j<k→at0 zs j=0) (fun k=>[(7,.int .i64 k),(6,.int .i64 zs.length),(5,.slice a zs.length c)]) (fun k=>zs.length-k) ?_ ?_ ?_
 ·exact⟨Nat.zero_le _,fun j hj=>by omega⟩
 ·simp [Ent,List.lookup,Wv]
 rintro k ⟨k1,k2⟩;by_cases c1:k<zs.length
 ·by_cases c2:at0 zs k=0
  ·simp -dsimp -implicitDefEqProofs (disch:=first|with_reducible assumption|omega) [go_sem,idx hcs];refine⟨k+1,⟨by omega,fun j hj=>?_⟩,by omega,by simp [Ent,List.lookup],Za.refl _ _⟩;by_cases e:j=k
   ·subst e;exact c2
   ·exact k2 j (by omega)
  ·have:(zs.all fun z=>decide (z=0))=false:=by
    rw[List.all_eq_false];exact⟨zs[k],List.getElem_mem c1,by simp [Yh,c2]⟩
   rw[this]at hk;simp -dsimp -implicitDefEqProofs (disch:=first|with_reducible assumption|omega) [go_sem,idx hcs];exact ZP hk
 ·have:(zs.all fun z=>decide (z=0))=true:=by
   rw[List.all_eq_true];intro x hx;obtain⟨j,hj,rfl⟩:=List.mem_iff_getElem.1 hx;simp [Yh,k2 j (by omega)]
  rw[this]at hk;refine xx ?_;exact ZP hk
def Ge {α:Type}(f:α→Int)(l:List α)(k:Nat):List Value:=((l.take k).map f).map (.int .u64)
theorem Vt {α:Type}{f:α→Int}{l:List α}{k:Nat}(hk:k≤l.length):(Ge f l k).length=k*1:=by simp [Ge,hk]
theorem JB {α:Type}{f:α→Int}{l:List α}{k:Nat}(z:α)(hk:k<l.length):Ge f l (k+1)=Ge f l k++[.int .u64 (f (gr z l k))]:=by
 rw[Yc hk,Ge,Ge,List.take_succ_eq_append_getElem hk,List.map_append,List.map_append];rfl
theorem Zes {α:Type}{f:α→Int}{l:List α}{h:PH}{v:Value}(sl:Sl h v l.length 1 (Ge f l l.length))(hm:∀x∈l,0≤f x∧f x≤18446744073709551615):Ints h .u64 v (l.map f):=by
 refine⟨?_,fun z hz=>?_⟩
 ·simpa [Ge] using sl
 ·obtain⟨x,hx,rfl⟩:=List.mem_map.1 hz;exact hm x hx
theorem Zgp {l:List Zc}(v:Value)(hd0:Zj YE 6 h v l)(hm:∀x∈l,Ze x)(hn:l.length≤100000)(hk:∀h' r,PH.le h h'→Ints h' .u64 r (l.map Zc.bal)→K r L h'):Zb prog 290 [v] L h K:=by
 obtain⟨a,c,rfl,hc,hl,_,hd⟩:=hd0.open;refine ZR func290 rfl (rs:=[_]) rfl rfl ZW (by kernel_rfl) rfl rfl ?_;refine xx ?_;refine YJ (γ:=Nat×Option (Nat×Nat)) (0,none) (fun s=>s.1≤l.length∧okO s.2 s.1∧apO s.2 L h) (fun s=>[(8,.int .i64 s.1),(7,.int .i64 l.length),(6,.slice a l.length c),(3,ovs s.2 s.1)])
  (fun s=>oent 22 1 s.2 (Ge Zc.bal l s.1) L) (fun _=>h) (fun s=>l.length-s.1) ?_ ?_ ?_ ?_
 ·exact⟨Nat.zero_le _,rfl,trivial⟩
 ·simp [Ent,List.lookup,Wv,ovs]
 ·exact Za.refl _ _
 rintro⟨k,o⟩ ⟨k1,k2,k3⟩;simp only at k1 k2 k3 ⊢;by_cases c1:k<l.length
 ·simp -dsimp -implicitDefEqProofs (disch:=first|with_reducible assumption|omega) [go_sem,↓Zci ZT (by decide) hd,YE];refine Z0 fun b1 nb1 zb1=>?_;(try simp only[ZU]at nb1);simp -dsimp -implicitDefEqProofs (disch:=first|with_reducible assumption|omega) [go_sem,YE];refine Z0 fun b2 nb2 zb2=>?_;(try simp only[ZU]at nb2);simp -dsimp -implicitDefEqProofs (disch:=first|with_reducible assumption|omega) [go_sem,YE];refine Z2 (t:=25) (e:=22) (sz:=1) (bytes:=8) (by kernel_rfl) Ux rfl rfl rfl rfl (by decide) [_,_] L o k (Ge Zc.bal l k) k2 (Vt k1) (Src.own List.mem_cons_self) (m:=1) (news:=[.int .u64 (gr ZT l k).bal]) rfl (by intro u hu;simp only[List.mem_singleton]at hu;subst hu;rfl) (by simp [maxLen];omega) (by omega) ?_;intro o' j1 j2 j3;refine xx ?_;refine⟨k+1,o',⟨by omega,j1,ZY (ZY j2)⟩,by omega,by simp [Ent,List.lookup],?_⟩;rw[JB ZT c1];exact(Za.tail _ _ _).trans (Za.tail _ _ _)
 ·have hkl:k=l.length:=by omega
  subst hkl;refine xx ?_;exact YT (n:=l.length) k2 (Vt (Nat.le_refl _)) (by omega) k3 fun h' le sl=>ZP (hk h' _ le (Zes sl fun x hx=>(hm x hx).u _ (by simp)))
theorem Zpw (d:Zn)(hk:K (.int .u64 d.amt) L h):Zb prog 348 [.agg #[.int .i64 d.acct,.int .i64 d.mem,.int .u64 d.amt,.bool d.new]] L h K:=by
 refine ZR func348 rfl (rs:=[_]) rfl rfl ZW (by kernel_rfl) rfl rfl ?_;refine xx ?_;refine Z0 fun b1 nb1 zb1=>?_;(try simp only[ZU]at nb1);refine xx ?_;exact ZO (ZP hk)
theorem Zpp (d:Zg)(hk:K (.int .u64 d.amt) L h):Zb prog 350 [.agg #[.int .i64 d.acct,.int .i64 d.at',.int .u64 d.amt]] L h K:=by
 refine ZR func350 rfl (rs:=[_]) rfl rfl ZW (by kernel_rfl) rfl rfl ?_;refine xx ?_;refine Z0 fun b1 nb1 zb1=>?_;(try simp only[ZU]at nb1);refine xx ?_;exact ZO (ZP hk)
theorem Zbe {l:List Zn}(v:Value)(hd0:Zj Zbb 4 h v l)(hn:l.length≤100000)(hk:∀o,okO o l.length→apO o L h→K (ovs o l.length) (oent 22 1 o (Ge Zn.amt l l.length) L) h):Zb prog 347 [v,.func (.func 348) #[] #[]] L h K:=by
 obtain⟨a,c,rfl,hc,hl,_,hd⟩:=hd0.open;refine ZR func347 rfl (rs:=[_]) rfl rfl ZW (by kernel_rfl) rfl rfl ?_;refine xx ?_;refine YJ (γ:=Nat×Option (Nat×Nat)) (0,none) (fun s=>s.1≤l.length∧okO s.2 s.1∧apO s.2 L h) (fun s=>[(10,.int .i64 s.1),(9,.int .i64 l.length),(8,.slice a l.length c),(5,ovs s.2 s.1),(1,.func (.func 348) #[] #[])])
  (fun s=>oent 22 1 s.2 (Ge Zn.amt l s.1) L) (fun _=>h) (fun s=>l.length-s.1) ?_ ?_ ?_ ?_
 ·exact⟨Nat.zero_le _,rfl,trivial⟩
 ·simp [Ent,List.lookup,Wv,ovs]
 ·exact Za.refl _ _
 rintro⟨k,o⟩ ⟨k1,k2,k3⟩;simp only at k1 k2 k3 ⊢;by_cases c1:k<l.length
 ·simp -dsimp -implicitDefEqProofs (disch:=first|with_reducible assumption|omega) [go_sem,↓Zci YN (by decide) hd,Zbb];refine Z0 fun b1 nb1 zb1=>?_;(try simp only[ZU]at nb1);simp -dsimp -implicitDefEqProofs (disch:=first|with_reducible assumption|omega) [go_sem,Zbb];refine Zpw (gr YN l k) ?_;refine xx ?_;refine Z0 fun b2 nb2 zb2=>?_;(try simp only[ZU]at nb2);refine xx ?_;refine Z2 (t:=25) (e:=22) (sz:=1) (bytes:=8) (by kernel_rfl) Ux rfl rfl rfl rfl (by decide) [_,_] L o k (Ge Zn.amt l k) k2 (Vt k1) (Src.own List.mem_cons_self) (m:=1) (news:=[.int .u64 (gr YN l k).amt]) rfl (by intro u hu;simp only[List.mem_singleton]at hu;subst hu;rfl) (by simp [maxLen];omega) (by omega) ?_;intro o' j1 j2 j3;refine xx ?_;refine⟨k+1,o',⟨by omega,j1,ZY (ZY j2)⟩,by omega,by simp [Ent,List.lookup],?_⟩;rw[JB YN c1];exact(Za.tail _ _ _).trans (Za.tail _ _ _)
 ·have hkl:k=l.length:=by omega
  subst hkl;refine xx ?_;exact ZP (hk o k2 k3)
theorem Zbn {l:List Zg}(v:Value)(hd0:Zj Yx 3 h v l)(hn:l.length≤100000)(hk:∀o,okO o l.length→apO o L h→K (ovs o l.length) (oent 22 1 o (Ge Zg.amt l l.length) L) h):Zb prog 349 [v,.func (.func 350) #[] #[]] L h K:=by
 obtain⟨a,c,rfl,hc,hl,_,hd⟩:=hd0.open;refine ZR func349 rfl (rs:=[_]) rfl rfl ZW (by kernel_rfl) rfl rfl ?_;refine xx ?_;refine YJ (γ:=Nat×Option (Nat×Nat)) (0,none) (fun s=>s.1≤l.length∧okO s.2 s.1∧apO s.2 L h) (fun s=>[(10,.int .i64 s.1),(9,.int .i64 l.length),(8,.slice a l.length c),(5,ovs s.2 s.1),(1,.func (.func 350) #[] #[])])
  (fun s=>oent 22 1 s.2 (Ge Zg.amt l s.1) L) (fun _=>h) (fun s=>l.length-s.1) ?_ ?_ ?_ ?_
 ·exact⟨Nat.zero_le _,rfl,trivial⟩
 ·simp [Ent,List.lookup,Wv,ovs]
 ·exact Za.refl _ _
 rintro⟨k,o⟩ ⟨k1,k2,k3⟩;simp only at k1 k2 k3 ⊢;by_cases c1:k<l.length
 ·simp -dsimp -implicitDefEqProofs (disch:=first|with_reducible assumption|omega) [go_sem,↓Zci ZZ (by decide) hd,Yx];refine Z0 fun b1 nb1 zb1=>?_;(try simp only[ZU]at nb1);simp -dsimp -implicitDefEqProofs (disch:=first|with_reducible assumption|omega) [go_sem,Yx];refine Zpp (gr ZZ l k) ?_;refine xx ?_;refine Z0 fun b2 nb2 zb2=>?_;(try simp only[ZU]at nb2);refine xx ?_;refine Z2 (t:=25) (e:=22) (sz:=1) (bytes:=8) (by kernel_rfl) Ux rfl rfl rfl rfl (by decide) [_,_] L o k (Ge Zg.amt l k) k2 (Vt k1) (Src.own List.mem_cons_self) (m:=1) (news:=[.int .u64 (gr ZZ l k).amt]) rfl (by intro u hu;simp only[List.mem_singleton]at hu;subst hu;rfl) (by simp [maxLen];omega) (by omega) ?_;intro o' j1 j2 j3;refine xx ?_;refine⟨k+1,o',⟨by omega,j1,ZY (ZY j2)⟩,by omega,by simp [Ent,List.lookup],?_⟩;rw[JB ZZ c1];exact(Za.tail _ _ _).trans (Za.tail _ _ _)
 ·have hkl:k=l.length:=by omega
  subst hkl;refine xx ?_;exact ZP (hk o k2 k3)
theorem Zb.fin {f:FuncId}{args:List Value}{L:Own}{h:PH}{K:PK}(hs:Zb prog f args L h fun v L' h'=>fin K v L' h'):Zb prog f args L h K :=
 ⟨trivial,fun W hg=>(hs.2 W hg).mono fun e W' ⟨r,L',h',he,⟨L2,h2,hd,hk⟩,st⟩=>by
  obtain⟨g,f⟩:=hd W' st.1;refine⟨r,L2,h2,he,hk,g,st.2.1,fun e he=>?_⟩;obtain⟨e',he',hb⟩:=List.mem_map.1 (f e he)
  rw[← hb];exact st.2.2 e' he'⟩
theorem YZ {v:Value}{h':PH}(le:PH.le h h')(hk:fin K v L h):fin K v L h':=by
 obtain⟨L2,h2,hd,hk⟩:=hk;exact⟨L2,h2,(Za.forget le).trans hd,hk⟩
theorem Zip:tot []=0:=rfl
theorem Zmt {l:List Zn}{m:List Zg}(v u:Value)(hv:Zj Zbb 4 h v l)(hu:Zj Yx 3 h u m)(hl:∀x∈l,ZK x)(hm:∀x∈m,Zr x)(nl:l.length≤100000)(nm:m.length≤100000)
  (hk:K (Zog (tot (l.map Zn.amt++m.map Zg.amt))) L h):Zb prog 292 [v,u] L h K:=by
 have ov:=hv.open;obtain⟨va,vc,rfl,_⟩:=ov;have ou:=hu.open;obtain⟨ua,uc,rfl,_⟩:=ou;refine ZR func292 rfl (rs:=[_,_]) rfl rfl ZW (by kernel_rfl) rfl rfl ?_;refine xx ?_;refine Zbe _ hv nl fun o k1 k2=>?_;refine xx ?_;refine Zbn _ hu nm fun o2 j1 j2=>?_;refine xx ?_;have c1:=Vt (f:=Zn.amt) (l:=l) (Nat.le_refl _);have c2:=Vt (f:=Zg.amt) (l:=m) (Nat.le_refl _);have conv:∀(h':PH) (w:Value),Sl h' w (l.length+m.length) 1 (Ge Zn.amt l l.length++Ge Zg.amt m m.length)→Ints h' .u64 w (l.map Zn.amt++m.map Zg.amt):=fun h' w sl=>by
  refine⟨?_,fun z hz=>?_⟩
  ·simpa [Ge] using sl
  ·rcases List.mem_append.1 hz with hz|hz
   ·obtain⟨x,hx,rfl⟩:=List.mem_map.1 hz;exact(hl x hx).a
   ·obtain⟨x,hx,rfl⟩:=List.mem_map.1 hz;exact(hm x hx).a
 cases o2 with
 | none =>
  have hm0:m.length=0:=j1;have hm0':m=[]:=List.eq_nil_of_length_eq_zero hm0;subst hm0';have hk:K (Zog (tot (l.map Zn.amt))) L h:=by simpa using hk
  simp only[oent,ovs];refine Z2 (t:=25) (e:=22) (sz:=1) (bytes:=8) (by kernel_rfl) Ux rfl rfl rfl rfl (by decide) [] L o l.length (Ge Zn.amt l l.length) k1 c1 (Src.known (n:=0) (sz:=1) (cs:=[]) (YO h .u64).1) (m:=0) (news:=[]) rfl (by simp) (by simp [maxLen];omega) (by omega) ?_;intro o' i1 i2 i3;refine xx ?_;refine WL (n:=l.length) i1 (by simpa using c1) (by omega) i2 fun h' le sl=>?_;refine Ws (zs:=l.map Zn.amt) _ (by simpa using conv h' _ (by simpa [Ge] using sl)) ?_;by_cases c:tot (l.map Zn.amt)≤18446744073709551615
  ·rw[YC c]at hk ⊢;refine xx ?_;exact YZ le (ZP hk)
  ·rw[Wh c]at hk ⊢;refine xx ?_;exact YZ le (ZP hk)
 | some p =>
  obtain⟨b2,cap2⟩:=p;simp only[oent,ovs];refine Z2 (t:=25) (e:=22) (sz:=1) (bytes:=8) (by kernel_rfl) Ux rfl rfl rfl rfl (by decide) [_] L o l.length (Ge Zn.amt l l.length) k1 c1 (Src.own List.mem_cons_self) (m:=m.length) (news:=Ge Zg.amt m m.length) c2 (by intro u hu;simp only[Ge,List.mem_map]at hu;obtain⟨_,_,rfl⟩:=hu;rfl) (by simp [maxLen];omega) (by omega) ?_;intro o' i1 i2 i3;refine xx ?_;refine Zgg (WL (n:=l.length+m.length) i1 (by rw[List.length_append,c1,c2];omega) (by omega) (ZY i2) fun h' le sl=>?_);refine Ws _ (conv h' _ sl) ?_;by_cases c:tot (l.map Zn.amt++m.map Zg.amt)≤18446744073709551615
  ·rw[YC c]at hk ⊢;refine xx ?_;exact YZ le (ZP hk)
  ·rw[Wh c]at hk ⊢;refine xx ?_;exact YZ le (ZP hk)
def Ztu (s:Zf):Int:=tot (s.members.map Zc.bal)
def Zqr (s:Zf):Int:=tot s.purses
def GU (s:Zf):Int:=tot (s.pool.map Zn.amt)
def Zvu (s:Zf):Int:=tot (s.dues.map Zg.amt)
def Zgo (n:Int):Int:=if n≤18446744073709551615 then 0 else 10
theorem V1 (n:Int):Zog n = .tuple #[.int .u64 (if n≤18446744073709551615 then n else 0),.int .i64 (Zgo n)]:=by
 unfold Zog Zgo;split<;>rfl
structure ZD (s:Zf):Prop where
 p:s.purses.length≤100000
 m:s.members.length≤100000
 e:s.entry.length≤100000
 x:s.exit.length≤100000
 o:s.pool.length≤100000
 d:s.dues.length≤100000
 t:s.motions.length≤100000
 r:s.ring.length≤100000
theorem Zzv (a b c d e:Int):tot [a,b,c,d,e]=a+b+c+d+e:=by simp [tot,YF,at0]
theorem Ztj (a b:Int):tot [a,b]=a+b:=by simp [tot,YF,at0]
theorem Yy {zs:List Int}(h0:∀i,0≤at0 zs i):0≤tot zs:=Vg h0 _
def UF (s:Zf):Bool:=decide (Ztu s≤18446744073709551615)&&decide (Zqr s≤18446744073709551615)&&decide (GU s≤18446744073709551615)&&decide (Zvu s≤18446744073709551615)
def Zgw (s:Zf):Value:=if UF s then .tuple #[.agg #[.int .u64 (Ztu s),.int .u64 (Zqr s),.int .u64 (GU s),.int .u64 (Zvu s),.int .u64 s.treas],.int .i64 0] else .tuple #[.agg #[.int .u64 0,.int .u64 0,.int .u64 0,.int .u64 0,.int .u64 0],.int .i64 10]
theorem Zyy (a b c d:Int):([Zgo a,Zgo b,Zgo c,Zgo d].all fun z=>decide (z=0))=(decide (a≤18446744073709551615)&&decide (b≤18446744073709551615)&&decide (c≤18446744073709551615)&&decide (d≤18446744073709551615)):=by
 have e:∀n,decide (Zgo n=0)=decide (n≤18446744073709551615):=fun n=>by unfold Zgo;split<;>simp [*]
 simp only[List.all_cons,List.all_nil,e,Bool.and_true,Bool.and_assoc]
theorem Zws {s:Zf}(v:SV)(hs:Zp h v s)(few:ZD s)(hk:K (Zgw s) L h):Zb prog 177 [stV s v] L h K:=by
 obtain⟨pa,pc,hp,_⟩:=hs.p.open;obtain⟨ma,mc,hm,_⟩:=hs.m.open;obtain⟨oa,oc,ho,_⟩:=hs.o.open;obtain⟨da,dc,hd,_⟩:=hs.d.open;refine ZR func177 rfl (rs:=[_,_]) rfl rfl ZW (by kernel_rfl) rfl rfl ?_;refine xx ?_;refine Z0 fun b1 nb1 zb1=>?_;(try simp only[ZU]at nb1);refine xx ?_;refine Z0 fun b2 nb2 zb2=>?_;(try simp only[ZU]at nb2);refine xx ?_;refine Zb.apn (Zgp _ hs.m hs.mo few.m fun h1 r1 le1 i1 ap nd=>?_);obtain⟨ap1,ap2,ap3⟩:=ap;refine xx ?_;refine Ws _ i1 ?_;rw[V1];refine xx ?_;refine Yay _ (hs.p.up le1) ?_;rw[V1];refine xx ?_;refine Zmt _ _ (hs.o.up le1) (Zj.nil Yn h1) hs.oo (fun x hx=>by cases hx) few.o (by simp) ?_;simp only[List.map_nil,List.append_nil];rw[V1];refine xx ?_;refine Zmt _ _ (Zj.nil V5 h1) (hs.d.up le1) (fun x hx=>by cases hx) hs.dd (by simp) few.d ?_;simp only[List.map_nil,List.nil_append];rw[V1];refine xx ?_;refine Z0 fun b3 nb3 zb3=>?_;(try simp only[ZU]at nb3);refine xx ?_;refine YB (sz:=1) (n:=4) (cap:=4) [] ⟨Nat.le_refl _,by decide⟩ rfl (by decide) zb3 fun h2 le2 s2 f2=>?_;have q1:h2 b2=noC:=by rw[f2 _ nb3.1];exact ap1
 have q2:h2 b1=noC:=by rw[f2 _ nb3.2.1];exact ap2
 refine Zhk (zs:=[Zgo (Ztu s),Zgo (Zqr s),Zgo (GU s),Zgo (Zvu s)]) _ ⟨s2,fun z hz=>?_⟩ ?_
 ·simp only[List.mem_cons,List.not_mem_nil,or_false]at hz;rcases hz with rfl|rfl|rfl|rfl<;>(unfold Zgo;split<;>decide)
 rw[Zyy]
 cases hB:UF s with
 | false =>
  rw[Zgw,if_neg (by rw[hB];exact Bool.false_ne_true)]at hk;rw[UF]at hB;rw[hB];simp only[List.nil_append];refine xx ?_;exact ZO (ZO (YZ (le1.trans le2) (ZP hk)))
 | true =>
  rw[Zgw,if_pos hB]at hk;rw[UF]at hB;rw[hB];simp only[UF,Bool.and_eq_true,decide_eq_true_eq]at hB;obtain⟨⟨⟨e1,e2⟩,e3⟩,e4⟩:=hB;simp only[Ztu,Zqr,GU,Zvu]at e1 e2 e3 e4 hk;simp only[if_pos e1,if_pos e2,if_pos e3,if_pos e4];simp only[List.nil_append];refine xx ?_;exact ZO (ZO (YZ (le1.trans le2) (ZP hk)))
theorem Ztg (a b c d e:Int)(ha:0≤a∧a≤18446744073709551615)(hb:0≤b∧b≤18446744073709551615)(hc:0≤c∧c≤18446744073709551615)(hd:0≤d∧d≤18446744073709551615)(he:0≤e∧e≤18446744073709551615)
  (hk:K (Zog (a+b+c+d+e)) L h):Zb prog 179 [.agg #[.int .u64 a,.int .u64 b,.int .u64 c,.int .u64 d,.int .u64 e]] L h K:=by
 rw[V1]at hk;refine ZR func179 rfl (rs:=[_,_]) rfl rfl ZW (by kernel_rfl) rfl rfl ?_;refine xx ?_;refine Z0 fun b1 nb1 zb1=>?_;(try simp only[ZU]at nb1);refine xx ?_;refine Z0 fun b2 nb2 zb2=>?_;(try simp only[ZU]at nb2);refine xx ?_;refine YB (sz:=1) (n:=5) (cap:=5) [] ⟨Nat.le_refl _,by decide⟩ rfl (by decide) zb2 fun h2 le2 s2 f2=>?_;refine Ws (zs:=[a,b,c,d,e]) _ ⟨s2,fun z hz=>?_⟩ ?_
 ·simp only[List.mem_cons,List.not_mem_nil,or_false]at hz;rcases hz with rfl|rfl|rfl|rfl|rfl<;>assumption
 rw[Zzv,V1];simp only[List.nil_append];refine xx ?_;exact ZO (YZ le2 (ZP hk))
def Zql (s:Zf):Int:=Ztu s+Zqr s+GU s+Zvu s+s.treas
def WR (s:Zf):Bool:=decide (s.gen+s.mint≤s.most)&&decide (s.most≤4611686018427387904)&&decide (Zql s+s.burn=s.gen+s.mint)
theorem V2 {α:Type}(f:α→Int)(l:List α)(hm:∀x∈l,0≤f x)(i:Nat):0≤at0 (l.map f) i:=by
 unfold at0;by_cases hi:i<l.length
 ·rw[List.getD_eq_getElem?_getD,List.getElem?_map,List.getElem?_eq_getElem hi];exact hm _ (List.getElem_mem hi)
 ·rw[List.getD_eq_getElem?_getD,List.getElem?_map,List.getElem?_eq_none (by omega)];exact Int.le_refl _
theorem Zp.parts {v:SV}{s:Zf}(hs:Zp h v s):0≤Ztu s∧0≤Zqr s∧0≤GU s∧0≤Zvu s :=
 ⟨Yy fun i=>V2 _ _ (fun x hx=>((hs.mo x hx).u _ (by simp)).1) i,Yy fun i=>(hs.p.word i).1,Yy fun i=>V2 _ _ (fun x hx=>(hs.oo x hx).a.1) i,Yy fun i=>V2 _ _ (fun x hx=>(hs.dd x hx).a.1) i⟩
theorem Ztr {s:Zf}(v:SV)(hs:Zp h v s)(few:ZD s)(hk:K (.bool (WR s)) L h):Zb prog 66 [stV s v] L h K:=by
 obtain⟨p1,p2,p3,p4⟩:=hs.parts;have um:0≤s.most∧s.most≤18446744073709551615:=hs.ok.u _ (by simp);have ug:0≤s.gen∧s.gen≤18446744073709551615:=hs.ok.u _ (by simp);have ui:0≤s.mint∧s.mint≤18446744073709551615:=hs.ok.u _ (by simp);have ub:0≤s.burn∧s.burn≤18446744073709551615:=hs.ok.u _ (by simp);have ut:0≤s.treas∧s.treas≤18446744073709551615:=hs.ok.u _ (by simp);obtain⟨pa,pc,hp,_⟩:=hs.p.open;refine ZR func66 rfl (rs:=[_]) rfl rfl ZW (by kernel_rfl) rfl rfl ?_;refine xx ?_;refine Z0 fun b1 nb1 zb1=>?_;(try simp only[ZU]at nb1);refine xx ?_;refine Zws v hs few ?_;have hS:Zql s=Ztu s+Zqr s+GU s+Zvu s+s.treas:=rfl;by_cases c1:UF s=true
 ·rw[Zgw,if_pos c1];simp only[UF,Bool.and_eq_true,decide_eq_true_eq]at c1;obtain⟨⟨⟨e1,e2⟩,e3⟩,e4⟩:=c1;refine xx ?_;refine Z0 fun b2 nb2 zb2=>?_;(try simp only[ZU]at nb2);refine xx ?_;by_cases c2:4611686018427387904<s.most
  ·rw[show WR s=false by simp only[WR];rw[decide_eq_false (show ¬s.most≤4611686018427387904 by omega)];simp]at hk;refine xx ?_;exact ZO (ZO (ZP hk))
  ·refine xx ?_;refine Z0 fun b3 nb3 zb3=>?_;(try simp only[ZU]at nb3);refine xx ?_;refine YB (sz:=1) (n:=2) (cap:=2) [] ⟨Nat.le_refl _,by decide⟩ rfl (by decide) zb3 fun h2 le2 s2 f2=>?_;have q1:h2 b2=noC:=by rw[f2 _ nb3.1];exact zb2
   have q2:h2 b1=noC:=by rw[f2 _ nb3.2.1];exact zb1
   refine G7 (zs:=[s.gen,s.mint]) s.most _ ⟨s2,fun z hz=>?_⟩ um.2 ?_
   ·simp only[List.mem_cons,List.not_mem_nil,or_false]at hz;rcases hz with rfl|rfl<;>assumption
   rw[Ztj];simp only[List.nil_append];by_cases c3:s.gen+s.mint≤s.most
   ·rw[decide_eq_true c3];refine xx ?_;refine Ztg _ _ _ _ _ ⟨p1,e1⟩ ⟨p2,e2⟩ ⟨p3,e3⟩ ⟨p4,e4⟩ ut ?_;rw[← hS];by_cases c4:Zql s≤18446744073709551615
    ·rw[YC c4];refine xx ?_;refine WD _ _ ⟨by omega,c4⟩ ub ?_;rw[V1];refine xx ?_;refine WD _ _ ug ui ?_;rw[YC (show s.gen+s.mint≤18446744073709551615 by omega)];refine xx ?_;refine Z0 fun b4 nb4 zb4=>?_;(try simp only[ZU]at nb4);refine xx ?_;refine YB (sz:=1) (n:=2) (cap:=2) [] ⟨Nat.le_refl _,by decide⟩ rfl (by decide) zb4 fun h3 le3 s3 f3=>?_;refine Zhk (zs:=[Zgo (Zql s+s.burn),0]) _ ⟨s3,fun z hz=>?_⟩ ?_
     ·simp only[List.mem_cons,List.not_mem_nil,or_false]at hz;rcases hz with rfl|rfl
      ·unfold Zgo;split<;>decide
      ·decide
     simp only[List.nil_append,List.all_cons,List.all_nil,Bool.and_true];by_cases c5:Zql s+s.burn≤18446744073709551615
     ·have:WR s=decide (Zql s+s.burn=s.gen+s.mint):=by simp only[WR,decide_eq_true c3,decide_eq_true (show s.most≤4611686018427387904 by omega),Bool.true_and]
      rw[this]at hk;simp only[Zgo,if_pos c5,decide_true];refine xx ?_;exact ZO (ZO (YZ (le2.trans le3) (ZP hk)))
     ·have:WR s=false:=by simp only[WR];rw[decide_eq_false (show ¬Zql s+s.burn=s.gen+s.mint by omega)];simp
      rw[this]at hk;simp only[Zgo,if_neg c5];refine xx ?_;exact ZO (ZO (YZ (le2.trans le3) (ZP hk)))
    ·have:WR s=false:=by simp only[WR];rw[decide_eq_false (show ¬Zql s+s.burn=s.gen+s.mint by omega)];simp
     rw[this]at hk;rw[Wh c4];refine xx ?_;exact ZO (ZO (YZ le2 (ZP hk)))
   ·have:WR s=false:=by simp only[WR];rw[decide_eq_false c3];simp
    rw[this]at hk;rw[decide_eq_false c3];refine xx ?_;exact ZO (ZO (YZ le2 (ZP hk)))
 ·have:WR s=false:=by
   have hn:¬(Ztu s≤18446744073709551615∧Zqr s≤18446744073709551615∧GU s≤18446744073709551615∧Zvu s≤18446744073709551615):=fun⟨a,b,c,d⟩=>c1 (by simp [UF,a,b,c,d]);simp only[WR];by_cases a:s.gen+s.mint≤s.most
   ·by_cases b:s.most≤4611686018427387904
    ·rw[decide_eq_false (show ¬Zql s+s.burn=s.gen+s.mint by omega)];simp
    ·simp [b]
   ·simp [a]
  rw[this]at hk;rw[Zgw,if_neg c1];refine xx ?_;refine Z0 fun b2 nb2 zb2=>?_;(try simp only[ZU]at nb2);refine xx ?_;exact ZO (ZO (ZP hk))
end Go.X
