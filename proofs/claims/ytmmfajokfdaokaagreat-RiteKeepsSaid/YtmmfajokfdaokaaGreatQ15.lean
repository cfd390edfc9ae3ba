/- Lemmas and contracts. Conditions: as each says. -/
import Derived.Laws.Externs
import Derived.Test.YtmmfajokfdaokaaGreatQ13
set_option linter.unusedVariables false
set_option linter.unusedSimpArgs false
set_option maxHeartbeats 12800000
set_option maxRecDepth 20000
namespace Go.X
open Go.RowKit Go.Proofs Go.Bl Go.Proofs.Tryz
variable {L:Own} {h:PH} {K:PK}
def YP (zs:List Int):Nat→Int
 | 0=>0
 | k+1=>YP zs k+at0 zs k
def tot (zs:List Int):Int:=YP zs zs.length
theorem G8 {zs:List Int}(h0:∀i,0≤at0 zs i):∀ {k m:Nat},k≤m→YP zs k≤YP zs m:=fun {k m} hkm=>by
  induction m with
  | zero => have : k = 0 := by omega
            subst this;exact Int.le_refl _
  | succ m ih =>
    by_cases e:k=m+1
    · subst e;exact Int.le_refl _
    · have:=ih (by omega);have:=h0 m;simp only[YP];omega
theorem Uf {zs:List Int}(h0:∀i,0≤at0 zs i)(k:Nat):0≤YP zs k:=by
 have:=G8 h0 (Nat.zero_le k)
 simpa [YP] using this
def Zqa (n:Int):Value:=if n≤18446744073709551615 then .tuple #[.int .u64 n,.int .i64 0] else .tuple #[.int .u64 0,.int .i64 10]
theorem YR {n:Int}(c:n≤18446744073709551615):Zqa n = .tuple #[.int .u64 n,.int .i64 0]:=by simp [Zqa,c]
theorem WG {n:Int}(c:¬n≤18446744073709551615):Zqa n = .tuple #[.int .u64 0,.int .i64 10]:=by simp [Zqa,c]
theorem Yep (x y:Int)(hx:0≤x)(hy:0≤y)(hk:K (.tuple #[.int .u64 ((x+y)%18446744073709551616),.int .u64 ((x+y)/18446744073709551616)]) L h):Zb prog 226 [.int .u64 x,.int .u64 y,.int .u64 0] L h K :=
 Zb.extern (fun W=>by
  show (callFunc 226 #[.int .u64 x,.int .u64 y,.int .u64 0]).run prog W=_;rw[run_callFunc_extern func226 (by kernel_rfl) (by kernel_rfl) (by kernel_rfl) (e:=add64Entry) (by kernel_rfl),run_add64 x y 0 hx hy (by decide) (by decide),Int.add_zero]
  rfl) hk
theorem WO (x y:Int)(hx:0≤x∧x≤18446744073709551615)(hy:0≤y∧y≤18446744073709551615)(hk:K (Zqa (x+y)) L h):Zb prog 111 [.int .u64 x,.int .u64 y] L h K:=by
 refine ZR func111 rfl (rs:=[_,_]) rfl rfl ZY (by kernel_rfl) rfl rfl ?_;refine xx ?_;refine Yep x y hx.1 hy.1 ?_;by_cases c:x+y≤18446744073709551615
 ·have e1:(x+y)%18446744073709551616=x+y:=by omega
  have e2:(x+y)/18446744073709551616=0:=by omega
  rw[YR c]at hk;rw[e1,e2];refine xx ?_;exact ZO hk
 ·have e2:(x+y)/18446744073709551616=1:=by omega
  rw[WG c]at hk;rw[e2];refine xx ?_;exact ZO hk
theorem WZ {zs:List Int}(v:Value)(hz:Ints h .u64 v zs)(hk:K (Zqa (tot zs)) L h):Zb prog 40 [v] L h K:=by
 have hw:=hz.word;have h0:∀i,0≤at0 zs i:=fun i=>(hw i).1;obtain⟨a,c,rfl,hn,hc,_,hcs⟩:=hz.open;refine ZR func40 rfl (rs:=[_,_]) rfl rfl ZY (by kernel_rfl) rfl rfl ?_;refine xx ?_;refine Vj (0:Nat) (fun k=>k≤zs.length∧YP zs k≤18446744073709551615) (fun k=>[(11,.int .i64 k),(10,.int .i64 zs.length),(9,.slice a zs.length c),(4,.int .u64 (YP zs k))]) (fun k=>zs.length-k) ?_ ?_ ?_
 ·exact⟨Nat.zero_le _,by simp [YP]⟩
 ·simp [Ent,List.lookup,WM,YP]
 rintro k ⟨k1,k2⟩;by_cases c1:k<zs.length
 ·have hs:=Uf h0 k;simp -dsimp -implicitDefEqProofs (disch:=first|with_reducible assumption|omega) [go_sem,idx hcs];refine WO _ _ ⟨hs,k2⟩ (hw k) ?_;by_cases c2:YP zs k+at0 zs k≤18446744073709551615
  ·rw[YR c2];refine xx ?_;exact⟨k+1,⟨by omega,c2⟩,by omega,by simp [Ent,List.lookup,YP],Za.refl _ _⟩
  ·have:=G8 h0 (show k+1≤zs.length by omega);rw[WG (show ¬tot zs≤18446744073709551615 by simp only[YP,tot]at *;omega)]at hk;rw[WG c2];refine xx ?_;exact ZO hk
 ·have hkl:k=zs.length:=by omega
  subst hkl;rw[YR (n:=tot zs) k2]at hk;refine xx ?_;exact ZO hk
theorem Yfx {zs:List Int}(v:Value)(hz:Ints h .u64 v zs)(hk:K (Zqa (tot zs)) L h):Zb prog 224 [v] L h K:=by
 refine ZR func224 rfl (rs:=[_,_]) rfl rfl ZY (by kernel_rfl) rfl rfl ?_;refine xx ?_;refine WZ v hz ?_;by_cases c:tot zs≤18446744073709551615
 ·rw[YR c]at hk ⊢;refine xx ?_;exact ZO hk
 ·rw[WG c]at hk ⊢;refine xx ?_;exact ZO hk
theorem Zdx {zs:List Int}(most:Int)(v:Value)(hz:Ints h .u64 v zs)(hm:most≤18446744073709551615)(hk:K (.bool (decide (tot zs≤most))) L h):Zb prog 109 [.int .u64 most,v] L h K:=by
 refine ZR func109 rfl (rs:=[_]) rfl rfl ZY (by kernel_rfl) rfl rfl ?_;refine xx ?_;refine WZ v hz ?_;by_cases c:tot zs≤18446744073709551615
 ·rw[YR c];refine xx ?_;exact ZO hk
 ·rw[decide_eq_false (show ¬tot zs≤most by omega)]at hk;rw[WG c];refine xx ?_;exact ZO hk
theorem Zkj {zs:List Int}(v:Value)(hz:Ints h .i64 v zs)(hk:K (.bool (zs.all fun z=>decide (z=0))) L h):Zb prog 112 [v] L h K:=by
 obtain⟨a,c,rfl,hn,hc,_,hcs⟩:=hz.open;refine ZR func112 rfl (rs:=[_]) rfl rfl ZY (by kernel_rfl) rfl rfl ?_;refine xx ?_;refine Vj (0:Nat) (fun k=>k≤zs.length∧∀j,j<k→at0 zs j=0) (fun k=>[(7,.int .i64 k),(6,.int .i64 zs.length),(5,.slice a zs.length c)]) (fun k=>zs.length-k) ?_ ?_ ?_
 ·exact⟨Nat.zero_le _,fun j hj=>by omega⟩
 ·simp [Ent,List.lookup,WM]
 rintro k ⟨k1,k2⟩;by_cases c1:k<zs.length
 ·by_cases c2:at0 zs k=0
  ·simp -dsimp -implicitDefEqProofs (disch:=first|with_reducible assumption|omega) [go_sem,idx hcs];refine⟨k+1,⟨by omega,fun j hj=>?_⟩,by omega,by simp [Ent,List.lookup],Za.refl _ _⟩;by_cases e:j=k
   ·subst e;exact c2
   ·exact k2 j (by omega)
  ·have:(zs.all fun z=>decide (z=0))=false:=by
    rw[List.all_eq_false];exact⟨zs[k],List.getElem_mem c1,by simp [Yx,c2]⟩
   rw[this]at hk;simp -dsimp -implicitDefEqProofs (disch:=first|with_reducible assumption|omega) [go_sem,idx hcs];exact ZO hk
 ·have:(zs.all fun z=>decide (z=0))=true:=by
   rw[List.all_eq_true];intro x hx;obtain⟨j,hj,rfl⟩:=List.mem_iff_getElem.1 hx;simp [Yx,k2 j (by omega)]
  rw[this]at hk;refine xx ?_;exact ZO hk
def Zbc {α:Type}(f:α→Int)(l:List α)(k:Nat):List Value:=((l.take k).map f).map (.int .u64)
theorem Ut {α:Type}{f:α→Int}{l:List α}{k:Nat}(hk:k≤l.length):(Zbc f l k).length=k*1:=by simp [Zbc,hk]
theorem G7 {α:Type}{f:α→Int}{l:List α}{k:Nat}(z:α)(hk:k<l.length):Zbc f l (k+1)=Zbc f l k++[.int .u64 (f (gr z l k))]:=by
 rw[Yl hk,Zbc,Zbc,List.take_succ_eq_append_getElem hk,List.map_append,List.map_append];rfl
theorem Zjn {α:Type}{f:α→Int}{l:List α}{h:PH}{v:Value}(sl:Sl h v l.length 1 (Zbc f l l.length))(hm:∀x∈l,0≤f x∧f x≤18446744073709551615):Ints h .u64 v (l.map f):=by
 refine⟨?_,fun z hz=>?_⟩
 ·simpa [Zbc] using sl
 ·obtain⟨x,hx,rfl⟩:=List.mem_map.1 hz;exact hm x hx
theorem Zkg {l:List Zc}(v:Value)(hd0:Zh YK 6 h v l)(hm:∀x∈l,Zg x)(hn:l.length≤100000)(hk:∀h' r,PH.le h h'→Ints h' .u64 r (l.map Zc.bal)→K r L h'):Zb prog 223 [v] L h K:=by
 obtain⟨a,c,rfl,hc,hl,_,hd⟩:=hd0.open;refine ZR func223 rfl (rs:=[_]) rfl rfl ZY (by kernel_rfl) rfl rfl ?_;refine xx ?_;refine YZ (γ:=Nat×Option (Nat×Nat)) (0,none) (fun s=>s.1≤l.length∧okO s.2 s.1∧apO s.2 L h) (fun s=>[(8,.int .i64 s.1),(7,.int .i64 l.length),(6,.slice a l.length c),(3,ovs s.2 s.1)])
  (fun s=>oent 22 1 s.2 (Zbc Zc.bal l s.1) L) (fun _=>h) (fun s=>l.length-s.1) ?_ ?_ ?_ ?_
 ·exact⟨Nat.zero_le _,rfl,trivial⟩
 ·simp [Ent,List.lookup,WM,ovs]
 ·exact Za.refl _ _
 rintro⟨k,o⟩ ⟨k1,k2,k3⟩;simp only at k1 k2 k3 ⊢;by_cases c1:k<l.length
 ·simp -dsimp -implicitDefEqProofs (disch:=first|with_reducible assumption|omega) [go_sem,↓Zam ZS (by decide) hd,YK];refine Z6 fun b1 nb1 zb1=>?_;(try simp only[ZU]at nb1);simp -dsimp -implicitDefEqProofs (disch:=first|with_reducible assumption|omega) [go_sem,YK];refine Z6 fun b2 nb2 zb2=>?_;(try simp only[ZU]at nb2);simp -dsimp -implicitDefEqProofs (disch:=first|with_reducible assumption|omega) [go_sem,YK];refine Z8 (t:=25) (e:=22) (sz:=1) (bytes:=8) (by kernel_rfl) U3 rfl rfl rfl rfl (by decide) [_,_] L o k (Zbc Zc.bal l k) k2 (Ut k1) (Src.own List.mem_cons_self) (m:=1) (news:=[.int .u64 (gr ZS l k).bal]) rfl (by intro u hu;simp only[List.mem_singleton]at hu;subst hu;rfl) (by simp [maxLen];omega) (by omega) ?_;intro o' j1 j2 j3;refine xx ?_;refine⟨k+1,o',⟨by omega,j1,Z2 (Z2 j2)⟩,by omega,by simp [Ent,List.lookup],?_⟩;rw[G7 ZS c1];exact(Za.tail _ _ _).trans (Za.tail _ _ _)
 ·have hkl:k=l.length:=by omega
  subst hkl;refine xx ?_;exact YE (n:=l.length) k2 (Ut (Nat.le_refl _)) (by omega) k3 fun h' le sl=>ZO (hk h' _ le (Zjn sl fun x hx=>(hm x hx).u _ (by simp)))
theorem Zvj (d:Zn)(hk:K (.int .u64 d.amt) L h):Zb prog 315 [.agg #[.int .i64 d.acct,.int .i64 d.mem,.int .u64 d.amt,.bool d.new]] L h K:=by
 refine ZR func315 rfl (rs:=[_]) rfl rfl ZY (by kernel_rfl) rfl rfl ?_;refine xx ?_;refine Z6 fun b1 nb1 zb1=>?_;(try simp only[ZU]at nb1);refine xx ?_;exact ZP (ZO hk)
theorem Zuq (d:Zi)(hk:K (.int .u64 d.amt) L h):Zb prog 317 [.agg #[.int .i64 d.acct,.int .i64 d.at',.int .u64 d.amt]] L h K:=by
 refine ZR func317 rfl (rs:=[_]) rfl rfl ZY (by kernel_rfl) rfl rfl ?_;refine xx ?_;refine Z6 fun b1 nb1 zb1=>?_;(try simp only[ZU]at nb1);refine xx ?_;exact ZP (ZO hk)
theorem Zfd {l:List Zn}(v:Value)(hd0:Zh UY 4 h v l)(hn:l.length≤100000)(hk:∀o,okO o l.length→apO o L h→K (ovs o l.length) (oent 22 1 o (Zbc Zn.amt l l.length) L) h):Zb prog 314 [v,.func (.func 315) #[] #[]] L h K:=by
 obtain⟨a,c,rfl,hc,hl,_,hd⟩:=hd0.open;refine ZR func314 rfl (rs:=[_]) rfl rfl ZY (by kernel_rfl) rfl rfl ?_;refine xx ?_;refine YZ (γ:=Nat×Option (Nat×Nat)) (0,none) (fun s=>s.1≤l.length∧okO s.2 s.1∧apO s.2 L h) (fun s=>[(10,.int .i64 s.1),(9,.int .i64 l.length),(8,.slice a l.length c),(5,ovs s.2 s.1),(1,.func (.func 315) #[] #[])])
  (fun s=>oent 22 1 s.2 (Zbc Zn.amt l s.1) L) (fun _=>h) (fun s=>l.length-s.1) ?_ ?_ ?_ ?_
 ·exact⟨Nat.zero_le _,rfl,trivial⟩
 ·simp [Ent,List.lookup,WM,ovs]
 ·exact Za.refl _ _
 rintro⟨k,o⟩ ⟨k1,k2,k3⟩;simp only at k1 k2 k3 ⊢;by_cases c1:k<l.length
 ·simp -dsimp -implicitDefEqProofs (disch:=first|with_reducible assumption|omega) [go_sem,↓Zam Wd (by decide) hd,UY];refine Z6 fun b1 nb1 zb1=>?_;(try simp only[ZU]at nb1);simp -dsimp -implicitDefEqProofs (disch:=first|with_reducible assumption|omega) [go_sem,UY];refine Zvj (gr Wd l k) ?_;refine xx ?_;refine Z6 fun b2 nb2 zb2=>?_;(try simp only[ZU]at nb2);refine xx ?_;refine Z8 (t:=25) (e:=22) (sz:=1) (bytes:=8) (by kernel_rfl) U3 rfl rfl rfl rfl (by decide) [_,_] L o k (Zbc Zn.amt l k) k2 (Ut k1) (Src.own List.mem_cons_self) (m:=1) (news:=[.int .u64 (gr Wd l k).amt]) rfl (by intro u hu;simp only[List.mem_singleton]at hu;subst hu;rfl) (by simp [maxLen];omega) (by omega) ?_;intro o' j1 j2 j3;refine xx ?_;refine⟨k+1,o',⟨by omega,j1,Z2 (Z2 j2)⟩,by omega,by simp [Ent,List.lookup],?_⟩;rw[G7 Wd c1];exact(Za.tail _ _ _).trans (Za.tail _ _ _)
 ·have hkl:k=l.length:=by omega
  subst hkl;refine xx ?_;exact ZO (hk o k2 k3)
theorem Zfe {l:List Zi}(v:Value)(hd0:Zh YT 3 h v l)(hn:l.length≤100000)(hk:∀o,okO o l.length→apO o L h→K (ovs o l.length) (oent 22 1 o (Zbc Zi.amt l l.length) L) h):Zb prog 316 [v,.func (.func 317) #[] #[]] L h K:=by
 obtain⟨a,c,rfl,hc,hl,_,hd⟩:=hd0.open;refine ZR func316 rfl (rs:=[_]) rfl rfl ZY (by kernel_rfl) rfl rfl ?_;refine xx ?_;refine YZ (γ:=Nat×Option (Nat×Nat)) (0,none) (fun s=>s.1≤l.length∧okO s.2 s.1∧apO s.2 L h) (fun s=>[(10,.int .i64 s.1),(9,.int .i64 l.length),(8,.slice a l.length c),(5,ovs s.2 s.1),(1,.func (.func 317) #[] #[])])
  (fun s=>oent 22 1 s.2 (Zbc Zi.amt l s.1) L) (fun _=>h) (fun s=>l.length-s.1) ?_ ?_ ?_ ?_
 ·exact⟨Nat.zero_le _,rfl,trivial⟩
 ·simp [Ent,List.lookup,WM,ovs]
 ·exact Za.refl _ _
 rintro⟨k,o⟩ ⟨k1,k2,k3⟩;simp only at k1 k2 k3 ⊢;by_cases c1:k<l.length
 ·simp -dsimp -implicitDefEqProofs (disch:=first|with_reducible assumption|omega) [go_sem,↓Zam Z5 (by decide) hd,YT];refine Z6 fun b1 nb1 zb1=>?_;(try simp only[ZU]at nb1);simp -dsimp -implicitDefEqProofs (disch:=first|with_reducible assumption|omega) [go_sem,YT];refine Zuq (gr Z5 l k) ?_;refine xx ?_;refine Z6 fun b2 nb2 zb2=>?_;(try simp only[ZU]at nb2);refine xx ?_;refine Z8 (t:=25) (e:=22) (sz:=1) (bytes:=8) (by kernel_rfl) U3 rfl rfl rfl rfl (by decide) [_,_] L o k (Zbc Zi.amt l k) k2 (Ut k1) (Src.own List.mem_cons_self) (m:=1) (news:=[.int .u64 (gr Z5 l k).amt]) rfl (by intro u hu;simp only[List.mem_singleton]at hu;subst hu;rfl) (by simp [maxLen];omega) (by omega) ?_;intro o' j1 j2 j3;refine xx ?_;refine⟨k+1,o',⟨by omega,j1,Z2 (Z2 j2)⟩,by omega,by simp [Ent,List.lookup],?_⟩;rw[G7 Z5 c1];exact(Za.tail _ _ _).trans (Za.tail _ _ _)
 ·have hkl:k=l.length:=by omega
  subst hkl;refine xx ?_;exact ZO (hk o k2 k3)
theorem Zb.fin {f:FuncId}{args:List Value}{L:Own}{h:PH}{K:PK}(hs:Zb prog f args L h fun v L' h'=>fin K v L' h'):Zb prog f args L h K :=
 ⟨trivial,fun W hg=>(hs.2 W hg).mono fun e W' ⟨r,L',h',he,⟨L2,h2,hd,hk⟩,st⟩=>by
  obtain⟨g,f⟩:=hd W' st.1;refine⟨r,L2,h2,he,hk,g,st.2.1,fun e he=>?_⟩;obtain⟨e',he',hb⟩:=List.mem_map.1 (f e he)
  rw[← hb];exact st.2.2 e' he'⟩
theorem Wy {v:Value}{h':PH}(le:PH.le h h')(hk:fin K v L h):fin K v L h':=by
 obtain⟨L2,h2,hd,hk⟩:=hk;exact⟨L2,h2,(Za.forget le).trans hd,hk⟩
theorem Zpi:tot []=0:=rfl
theorem Zrv {l:List Zn}{m:List Zi}(v u:Value)(hv:Zh UY 4 h v l)(hu:Zh YT 3 h u m)(hl:∀x∈l,ZE x)(hm:∀x∈m,Zv x)(nl:l.length≤100000)(nm:m.length≤100000)
  (hk:K (Zqa (tot (l.map Zn.amt++m.map Zi.amt))) L h):Zb prog 225 [v,u] L h K:=by
 have ov:=hv.open;obtain⟨va,vc,rfl,_⟩:=ov;have ou:=hu.open;obtain⟨ua,uc,rfl,_⟩:=ou;refine ZR func225 rfl (rs:=[_,_]) rfl rfl ZY (by kernel_rfl) rfl rfl ?_;refine xx ?_;refine Zfd _ hv nl fun o k1 k2=>?_;refine xx ?_;refine Zfe _ hu nm fun o2 j1 j2=>?_;refine xx ?_;have c1:=Ut (f:=Zn.amt) (l:=l) (Nat.le_refl _);have c2:=Ut (f:=Zi.amt) (l:=m) (Nat.le_refl _);have conv:∀(h':PH) (w:Value),Sl h' w (l.length+m.length) 1 (Zbc Zn.amt l l.length++Zbc Zi.amt m m.length)→Ints h' .u64 w (l.map Zn.amt++m.map Zi.amt):=fun h' w sl=>by
  refine⟨?_,fun z hz=>?_⟩
  ·simpa [Zbc] using sl
  ·rcases List.mem_append.1 hz with hz|hz
   ·obtain⟨x,hx,rfl⟩:=List.mem_map.1 hz;exact(hl x hx).a
   ·obtain⟨x,hx,rfl⟩:=List.mem_map.1 hz;exact(hm x hx).a
 cases o2 with
 | none =>
  have hm0:m.length=0:=j1;have hm0':m=[]:=List.eq_nil_of_length_eq_zero hm0;subst hm0';have hk:K (Zqa (tot (l.map Zn.amt))) L h:=by simpa using hk
  simp only[oent,ovs];refine Z8 (t:=25) (e:=22) (sz:=1) (bytes:=8) (by kernel_rfl) U3 rfl rfl rfl rfl (by decide) [] L o l.length (Zbc Zn.amt l l.length) k1 c1 (Src.known (n:=0) (sz:=1) (cs:=[]) (Yd h .u64).1) (m:=0) (news:=[]) rfl (by simp) (by simp [maxLen];omega) (by omega) ?_;intro o' i1 i2 i3;refine xx ?_;refine Vq (n:=l.length) i1 (by simpa using c1) (by omega) i2 fun h' le sl=>?_;refine WZ (zs:=l.map Zn.amt) _ (by simpa using conv h' _ (by simpa [Zbc] using sl)) ?_;by_cases c:tot (l.map Zn.amt)≤18446744073709551615
  ·rw[YR c]at hk ⊢;refine xx ?_;exact Wy le (ZO hk)
  ·rw[WG c]at hk ⊢;refine xx ?_;exact Wy le (ZO hk)
 | some p =>
  obtain⟨b2,cap2⟩:=p;simp only[oent,ovs];refine Z8 (t:=25) (e:=22) (sz:=1) (bytes:=8) (by kernel_rfl) U3 rfl rfl rfl rfl (by decide) [_] L o l.length (Zbc Zn.amt l l.length) k1 c1 (Src.own List.mem_cons_self) (m:=m.length) (news:=Zbc Zi.amt m m.length) c2 (by intro u hu;simp only[Zbc,List.mem_map]at hu;obtain⟨_,_,rfl⟩:=hu;rfl) (by simp [maxLen];omega) (by omega) ?_;intro o' i1 i2 i3;refine xx ?_;refine Zll (Vq (n:=l.length+m.length) i1 (by rw[List.length_append,c1,c2];omega) (by omega) (Z2 i2) fun h' le sl=>?_);refine WZ _ (conv h' _ sl) ?_;by_cases c:tot (l.map Zn.amt++m.map Zi.amt)≤18446744073709551615
  ·rw[YR c]at hk ⊢;refine xx ?_;exact Wy le (ZO hk)
  ·rw[WG c]at hk ⊢;refine xx ?_;exact Wy le (ZO hk)
def Zkd (s:Zf):Int:=tot (s.members.map Zc.bal)
def Zmt (s:Zf):Int:=tot s.purses
def Ga (s:Zf):Int:=tot (s.pool.map Zn.amt)
def Zmr (s:Zf):Int:=tot (s.dues.map Zi.amt)
def Zjm (n:Int):Int:=if n≤18446744073709551615 then 0 else 10
theorem Je (n:Int):Zqa n = .tuple #[.int .u64 (if n≤18446744073709551615 then n else 0),.int .i64 (Zjm n)]:=by
 unfold Zqa Zjm;split<;>rfl
structure ZJ (s:Zf):Prop where
 p:s.purses.length≤100000
 m:s.members.length≤100000
 e:s.entry.length≤100000
 x:s.exit.length≤100000
 o:s.pool.length≤100000
 d:s.dues.length≤100000
 t:s.motions.length≤100000
 r:s.ring.length≤100000
theorem Yiv (a b c d e:Int):tot [a,b,c,d,e]=a+b+c+d+e:=by simp [tot,YP,at0]
theorem Ydi (a b:Int):tot [a,b]=a+b:=by simp [tot,YP,at0]
theorem Yy {zs:List Int}(h0:∀i,0≤at0 zs i):0≤tot zs:=Uf h0 _
def JM (s:Zf):Bool:=decide (Zkd s≤18446744073709551615)&&decide (Zmt s≤18446744073709551615)&&decide (Ga s≤18446744073709551615)&&decide (Zmr s≤18446744073709551615)
def Zjo (s:Zf):Value:=if JM s then .tuple #[.agg #[.int .u64 (Zkd s),.int .u64 (Zmt s),.int .u64 (Ga s),.int .u64 (Zmr s),.int .u64 s.treas],.int .i64 0] else .tuple #[.agg #[.int .u64 0,.int .u64 0,.int .u64 0,.int .u64 0,.int .u64 0],.int .i64 10]
theorem Yfi (a b c d:Int):([Zjm a,Zjm b,Zjm c,Zjm d].all fun z=>decide (z=0))=(decide (a≤18446744073709551615)&&decide (b≤18446744073709551615)&&decide (c≤18446744073709551615)&&decide (d≤18446744073709551615)):=by
 have e:∀n,decide (Zjm n=0)=decide (n≤18446744073709551615):=fun n=>by unfold Zjm;split<;>simp [*]
 simp only[List.all_cons,List.all_nil,e,Bool.and_true,Bool.and_assoc]
theorem Yag {s:Zf}(v:SV)(hs:Zs h v s)(few:ZJ s)(hk:K (Zjo s) L h):Zb prog 108 [stV s v] L h K:=by
 obtain⟨pa,pc,hp,_⟩:=hs.p.open;obtain⟨ma,mc,hm,_⟩:=hs.m.open;obtain⟨oa,oc,ho,_⟩:=hs.o.open;obtain⟨da,dc,hd,_⟩:=hs.d.open;refine ZR func108 rfl (rs:=[_,_]) rfl rfl ZY (by kernel_rfl) rfl rfl ?_;refine xx ?_;refine Z6 fun b1 nb1 zb1=>?_;(try simp only[ZU]at nb1);refine xx ?_;refine Z6 fun b2 nb2 zb2=>?_;(try simp only[ZU]at nb2);refine xx ?_;refine Zb.apn (Zkg _ hs.m hs.mo few.m fun h1 r1 le1 i1 ap nd=>?_);obtain⟨ap1,ap2,ap3⟩:=ap;refine xx ?_;refine WZ _ i1 ?_;rw[Je];refine xx ?_;refine Yfx _ (hs.p.up le1) ?_;rw[Je];refine xx ?_;refine Zrv _ _ (hs.o.up le1) (Zh.nil YJ h1) hs.oo (fun x hx=>by cases hx) few.o (by simp) ?_;simp only[List.map_nil,List.append_nil];rw[Je];refine xx ?_;refine Zrv _ _ (Zh.nil YW h1) (hs.d.up le1) (fun x hx=>by cases hx) hs.dd (by simp) few.d ?_;simp only[List.map_nil,List.nil_append];rw[Je];refine xx ?_;refine Z6 fun b3 nb3 zb3=>?_;(try simp only[ZU]at nb3);refine xx ?_;refine Y0 (sz:=1) (n:=4) (cap:=4) [] ⟨Nat.le_refl _,by decide⟩ rfl (by decide) zb3 fun h2 le2 s2 f2=>?_;have q1:h2 b2=noC:=by rw[f2 _ nb3.1];exact ap1
 have q2:h2 b1=noC:=by rw[f2 _ nb3.2.1];exact ap2
 refine Zkj (zs:=[Zjm (Zkd s),Zjm (Zmt s),Zjm (Ga s),Zjm (Zmr s)]) _ ⟨s2,fun z hz=>?_⟩ ?_
 ·simp only[List.mem_cons,List.not_mem_nil,or_false]at hz;rcases hz with rfl|rfl|rfl|rfl<;>(unfold Zjm;split<;>decide)
 rw[Yfi]
 cases hB:JM s with
 | false =>
  rw[Zjo,if_neg (by rw[hB];exact Bool.false_ne_true)]at hk;rw[JM]at hB;rw[hB];simp only[List.nil_append];refine xx ?_;exact ZP (ZP (Wy (le1.trans le2) (ZO hk)))
 | true =>
  rw[Zjo,if_pos hB]at hk;rw[JM]at hB;rw[hB];simp only[JM,Bool.and_eq_true,decide_eq_true_eq]at hB;obtain⟨⟨⟨e1,e2⟩,e3⟩,e4⟩:=hB;simp only[Zkd,Zmt,Ga,Zmr]at e1 e2 e3 e4 hk;simp only[if_pos e1,if_pos e2,if_pos e3,if_pos e4];simp only[List.nil_append];refine xx ?_;exact ZP (ZP (Wy (le1.trans le2) (ZO hk)))
theorem Ybc (a b c d e:Int)(ha:0≤a∧a≤18446744073709551615)(hb:0≤b∧b≤18446744073709551615)(hc:0≤c∧c≤18446744073709551615)(hd:0≤d∧d≤18446744073709551615)(he:0≤e∧e≤18446744073709551615)
  (hk:K (Zqa (a+b+c+d+e)) L h):Zb prog 110 [.agg #[.int .u64 a,.int .u64 b,.int .u64 c,.int .u64 d,.int .u64 e]] L h K:=by
 rw[Je]at hk;refine ZR func110 rfl (rs:=[_,_]) rfl rfl ZY (by kernel_rfl) rfl rfl ?_;refine xx ?_;refine Z6 fun b1 nb1 zb1=>?_;(try simp only[ZU]at nb1);refine xx ?_;refine Z6 fun b2 nb2 zb2=>?_;(try simp only[ZU]at nb2);refine xx ?_;refine Y0 (sz:=1) (n:=5) (cap:=5) [] ⟨Nat.le_refl _,by decide⟩ rfl (by decide) zb2 fun h2 le2 s2 f2=>?_;refine WZ (zs:=[a,b,c,d,e]) _ ⟨s2,fun z hz=>?_⟩ ?_
 ·simp only[List.mem_cons,List.not_mem_nil,or_false]at hz;rcases hz with rfl|rfl|rfl|rfl|rfl<;>assumption
 rw[Yiv,Je];simp only[List.nil_append];refine xx ?_;exact ZP (Wy le2 (ZO hk))
def Zpg (s:Zf):Int:=Zkd s+Zmt s+Ga s+Zmr s+s.treas
def WL (s:Zf):Bool:=decide (s.gen+s.mint≤s.most)&&decide (s.most≤4611686018427387904)&&decide (Zpg s+s.burn=s.gen+s.mint)
theorem Vw {α:Type}(f:α→Int)(l:List α)(hm:∀x∈l,0≤f x)(i:Nat):0≤at0 (l.map f) i:=by
 unfold at0;by_cases hi:i<l.length
 ·rw[List.getD_eq_getElem?_getD,List.getElem?_map,List.getElem?_eq_getElem hi];exact hm _ (List.getElem_mem hi)
 ·rw[List.getD_eq_getElem?_getD,List.getElem?_map,List.getElem?_eq_none (by omega)];exact Int.le_refl _
theorem Zs.parts {v:SV}{s:Zf}(hs:Zs h v s):0≤Zkd s∧0≤Zmt s∧0≤Ga s∧0≤Zmr s :=
 ⟨Yy fun i=>Vw _ _ (fun x hx=>((hs.mo x hx).u _ (by simp)).1) i,Yy fun i=>(hs.p.word i).1,Yy fun i=>Vw _ _ (fun x hx=>(hs.oo x hx).a.1) i,Yy fun i=>Vw _ _ (fun x hx=>(hs.dd x hx).a.1) i⟩
theorem Zml {s:Zf}(v:SV)(hs:Zs h v s)(few:ZJ s)(hk:K (.bool (WL s)) L h):Zb prog 34 [stV s v] L h K:=by
 obtain⟨p1,p2,p3,p4⟩:=hs.parts;have um:0≤s.most∧s.most≤18446744073709551615:=hs.ok.u _ (by simp);have ug:0≤s.gen∧s.gen≤18446744073709551615:=hs.ok.u _ (by simp);have ui:0≤s.mint∧s.mint≤18446744073709551615:=hs.ok.u _ (by simp);have ub:0≤s.burn∧s.burn≤18446744073709551615:=hs.ok.u _ (by simp);have ut:0≤s.treas∧s.treas≤18446744073709551615:=hs.ok.u _ (by simp);obtain⟨pa,pc,hp,_⟩:=hs.p.open;refine ZR func34 rfl (rs:=[_]) rfl rfl ZY (by kernel_rfl) rfl rfl ?_;refine xx ?_;refine Z6 fun b1 nb1 zb1=>?_;(try simp only[ZU]at nb1);refine xx ?_;refine Yag v hs few ?_;have hS:Zpg s=Zkd s+Zmt s+Ga s+Zmr s+s.treas:=rfl;by_cases c1:JM s=true
 ·rw[Zjo,if_pos c1];simp only[JM,Bool.and_eq_true,decide_eq_true_eq]at c1;obtain⟨⟨⟨e1,e2⟩,e3⟩,e4⟩:=c1;refine xx ?_;refine Z6 fun b2 nb2 zb2=>?_;(try simp only[ZU]at nb2);refine xx ?_;by_cases c2:4611686018427387904<s.most
  ·rw[show WL s=false by simp only[WL];rw[decide_eq_false (show ¬s.most≤4611686018427387904 by omega)];simp]at hk;refine xx ?_;exact ZP (ZP (ZO hk))
  ·refine xx ?_;refine Z6 fun b3 nb3 zb3=>?_;(try simp only[ZU]at nb3);refine xx ?_;refine Y0 (sz:=1) (n:=2) (cap:=2) [] ⟨Nat.le_refl _,by decide⟩ rfl (by decide) zb3 fun h2 le2 s2 f2=>?_;have q1:h2 b2=noC:=by rw[f2 _ nb3.1];exact zb2
   have q2:h2 b1=noC:=by rw[f2 _ nb3.2.1];exact zb1
   refine Zdx (zs:=[s.gen,s.mint]) s.most _ ⟨s2,fun z hz=>?_⟩ um.2 ?_
   ·simp only[List.mem_cons,List.not_mem_nil,or_false]at hz;rcases hz with rfl|rfl<;>assumption
   rw[Ydi];simp only[List.nil_append];by_cases c3:s.gen+s.mint≤s.most
   ·rw[decide_eq_true c3];refine xx ?_;refine Ybc _ _ _ _ _ ⟨p1,e1⟩ ⟨p2,e2⟩ ⟨p3,e3⟩ ⟨p4,e4⟩ ut ?_;rw[← hS];by_cases c4:Zpg s≤18446744073709551615
    ·rw[YR c4];refine xx ?_;refine WO _ _ ⟨by omega,c4⟩ ub ?_;rw[Je];refine xx ?_;refine WO _ _ ug ui ?_;rw[YR (show s.gen+s.mint≤18446744073709551615 by omega)];refine xx ?_;refine Z6 fun b4 nb4 zb4=>?_;(try simp only[ZU]at nb4);refine xx ?_;refine Y0 (sz:=1) (n:=2) (cap:=2) [] ⟨Nat.le_refl _,by decide⟩ rfl (by decide) zb4 fun h3 le3 s3 f3=>?_;refine Zkj (zs:=[Zjm (Zpg s+s.burn),0]) _ ⟨s3,fun z hz=>?_⟩ ?_
     ·simp only[List.mem_cons,List.not_mem_nil,or_false]at hz;rcases hz with rfl|rfl
      ·unfold Zjm;split<;>decide
      ·decide
     simp only[List.nil_append,List.all_cons,List.all_nil,Bool.and_true];by_cases c5:Zpg s+s.burn≤18446744073709551615
     ·have:WL s=decide (Zpg s+s.burn=s.gen+s.mint):=by simp only[WL,decide_eq_true c3,decide_eq_true (show s.most≤4611686018427387904 by omega),Bool.true_and]
      rw[this]at hk;simp only[Zjm,if_pos c5,decide_true];refine xx ?_;exact ZP (ZP (Wy (le2.trans le3) (ZO hk)))
     ·have:WL s=false:=by simp only[WL];rw[decide_eq_false (show ¬Zpg s+s.burn=s.gen+s.mint by omega)];simp
      rw[this]at hk;simp only[Zjm,if_neg c5];refine xx ?_;exact ZP (ZP (Wy (le2.trans le3) (ZO hk)))
    ·have:WL s=false:=by simp only[WL];rw[decide_eq_false (show ¬Zpg s+s.burn=s.gen+s.mint by omega)];simp
     rw[this]at hk;rw[WG c4];refine xx ?_;exact ZP (ZP (Wy le2 (ZO hk)))
   ·have:WL s=false:=by simp only[WL];rw[decide_eq_false c3];simp
    rw[this]at hk;rw[decide_eq_false c3];refine xx ?_;exact ZP (ZP (Wy le2 (ZO hk)))
 ·have:WL s=false:=by
   have hn:¬(Zkd s≤18446744073709551615∧Zmt s≤18446744073709551615∧Ga s≤18446744073709551615∧Zmr s≤18446744073709551615):=fun⟨a,b,c,d⟩=>c1 (by simp [JM,a,b,c,d]);simp only[WL];by_cases a:s.gen+s.mint≤s.most
   ·by_cases b:s.most≤4611686018427387904
    ·rw[decide_eq_false (show ¬Zpg s+s.burn=s.gen+s.mint by omega)];simp
    ·simp [b]
   ·simp [a]
  rw[this]at hk;rw[Zjo,if_neg c1];refine xx ?_;refine Z6 fun b2 nb2 zb2=>?_;(try simp only[ZU]at nb2);refine xx ?_;exact ZP (ZP (ZO hk))
def WW (p:Ze)(b:Int):Int:=min (b-b%p.inc) p.maxEff
def Ygl (p:Ze)(e b:Int):Bool:=decide (b+p.down<e)||decide (e+p.up<b)
def Zeq (p:Ze)(e b:Int):Int:=if Ygl p e b then WW p b else e
def UG (p:Ze)(e b:Int):Bool:=decide (p.inc≤e)&&decide (e≤p.maxEff)&&decide (e%p.inc=0)&&decide (Zeq p e b=e)
theorem Gn {p:Ze}(hr:Ym p=true):1≤p.inc:=by
 simp only[Ym,Bool.and_eq_true]at hr;exact(YS hr.1.1.1).1
theorem Zb.keep {P:Program}{f:FuncId}{args:List Value}{v:Value}(hs:Zb P f args L h fun v' L' h'=>v'=v∧L'=L∧PH.le h h')(hk:K v L h):Zb P f args L h K :=
 hs.forget.mono fun _ _ _ ⟨a,b,c⟩=>by subst a;subst b;subst c;exact hk
theorem Vc (p:Ze)(ok:Zj p)(hk:K (.int .i64 (if Ym p then 0 else 70)) L h):Zb prog 36 [VQ p] L h K :=
 Zb.keep (Zaw p ok fun _ le=>⟨rfl,rfl,le⟩) hk
theorem JZ (p:Ze)(ok:Zj p)(hk:K (.tuple #[VQ p,.bool (Ym p)]) L h):Zb prog 233 [VQ p] L h K:=by
 refine ZR func233 rfl (rs:=[_,_]) rfl rfl ZY (by kernel_rfl) rfl rfl ?_;refine xx ?_;refine Z6 fun b1 nb1 zb1=>?_;(try simp only[ZU]at nb1);refine xx ?_;refine Z6 fun b2 nb2 zb2=>?_;(try simp only[ZU]at nb2);refine xx ?_;refine Yr (.tkl 0 (.tk 1 (.o1 2 (.o1 3 (.tk 4 (.o2 5 (.tk 6 (.fin)) (.nil))) (.nil)) (.nil)))) (by kernel_rfl) (by kernel_rfl) _ (Za.refl _ _) ?_;refine xx ?_;refine Vc p ok ?_;refine xkp (Za.refl _ _) ?_
 cases hr:Ym p with
 | true =>
  rw[hr]at hk;refine xx ?_;exact ZP (ZP (ZO hk))
 | false =>
  rw[hr]at hk;refine xx ?_;exact ZP (ZP (ZO hk))
theorem Zmf (p:Ze)(b:Int)(h1:1≤p.inc)(hb:0≤b∧b≤18446744073709551615)(hk:K (.int .u64 (WW p b)) L h):Zb prog 234 [VQ p,.int .u64 b] L h K:=by
 unfold WW at hk;have e1:=Int.emod_nonneg b (show p.inc≠0 by omega);have e2:b%p.inc≤b:=by
  rw[Int.emod_def];have:=Int.mul_nonneg (show 0≤p.inc by omega) (Int.ediv_nonneg hb.1 (show 0≤p.inc by omega));omega
 refine ZR func234 rfl (rs:=[_]) rfl rfl ZY (by kernel_rfl) rfl rfl ?_;refine xx ?_;refine Z6 fun b1 nb1 zb1=>?_;(try simp only[ZU]at nb1);refine xx ?_;refine Yr (.tk 0 (.tk 1 (.tk 2 (.tk 3 (.tk 7 (.tk 8 (.tkl 4 (.tk 5 (.tk 6 (.tkl 9 (.o1 10 (.tk 11 (.fin)) (.nil)))))))))))) (by kernel_rfl) (by kernel_rfl) _ (Za.refl _ _) ?_;refine xx ?_;exact ZP (ZO hk)
theorem Yok (p:Ze)(ok:Zj p)(e b:Int)(he:0≤e∧e≤18446744073709551615)(hb:0≤b∧b≤18446744073709551615)(hk:K (.bool (Ygl p e b)) L h):Zb prog 338 [VQ p,.int .u64 e,.int .u64 b] L h K:=by
 have u1:=ok.w p.down (by simp [Yw]);have u2:=ok.w p.up (by simp [Yw]);refine ZR func338 rfl (rs:=[_]) rfl rfl ZY (by kernel_rfl) rfl rfl ?_;refine xx ?_;refine Z6 fun b1 nb1 zb1=>?_;(try simp only[ZU]at nb1);refine xx ?_;refine WO _ _ hb u1 ?_;by_cases c1:b+p.down≤18446744073709551615
 ·rw[YR c1];refine xx ?_;refine WO _ _ he u2 ?_;by_cases c2:e+p.up≤18446744073709551615
  ·rw[YR c2];by_cases c3:b+p.down<e
   ·refine xx ?_;exact ZP (ZO (by simpa [Ygl,c3] using hk))
   ·refine xx ?_;exact ZP (ZO (by simpa [Ygl,c3] using hk))
  ·rw[WG c2];have c4:¬e+p.up<b:=by omega
   by_cases c3:b+p.down<e
   ·refine xx ?_;exact ZP (ZO (by simpa [Ygl,c3,c4] using hk))
   ·refine xx ?_;exact ZP (ZO (by simpa [Ygl,c3,c4] using hk))
 ·rw[WG c1];have c3:¬b+p.down<e:=by omega
  refine xx ?_;refine WO _ _ he u2 ?_;by_cases c2:e+p.up≤18446744073709551615
  ·rw[YR c2];refine xx ?_;exact ZP (ZO (by simpa [Ygl,c3] using hk))
  ·rw[WG c2];have c4:¬e+p.up<b:=by omega
   refine xx ?_;exact ZP (ZO (by simpa [Ygl,c3,c4] using hk))
theorem Zrc (p:Ze)(ok:Zj p)(h1:1≤p.inc)(e b:Int)(he:0≤e∧e≤18446744073709551615)(hb:0≤b∧b≤18446744073709551615)(hk:K (.int .u64 (Zeq p e b)) L h):Zb prog 275 [VQ p,.int .u64 e,.int .u64 b] L h K:=by
 refine ZR func275 rfl (rs:=[_]) rfl rfl ZY (by kernel_rfl) rfl rfl ?_;refine xx ?_;refine Z6 fun b1 nb1 zb1=>?_;(try simp only[ZU]at nb1);refine xx ?_;refine Yok p ok e b he hb ?_;unfold Zeq at hk
 cases c:Ygl p e b with
 | true =>
  rw[c]at hk;refine xx ?_;refine Zmf p b h1 hb ?_;refine xx ?_;exact ZP (ZO (by simpa using hk))
 | false =>
  rw[c]at hk;refine xx ?_;exact ZP (ZO (by simpa using hk))
theorem Zmp (p:Ze)(ok:Zj p)(e b:Int)(he:0≤e∧e≤18446744073709551615)(hb:0≤b∧b≤18446744073709551615)(hk:K (.bool (Ym p&&UG p e b)) L h):Zb prog 167 [VQ p,.int .u64 e,.int .u64 b] L h K:=by
 refine ZR func167 rfl (rs:=[_]) rfl rfl ZY (by kernel_rfl) rfl rfl ?_;refine xx ?_;refine Z6 fun b1 nb1 zb1=>?_;(try simp only[ZU]at nb1);refine xx ?_;refine JZ p ok ?_
 cases hr:Ym p with
 | false =>
  rw[hr]at hk;refine xx ?_;refine Z6 fun b2 nb2 zb2=>?_;(try simp only[ZU]at nb2);refine xx ?_;exact ZP (ZP (ZO (by simpa using hk)))
 | true =>
  have h1:=Gn hr;rw[hr]at hk;refine xx ?_;refine Z6 fun b2 nb2 zb2=>?_;(try simp only[ZU]at nb2);refine xx ?_;by_cases c1:p.inc≤e
  ·by_cases c2:e≤p.maxEff
   ·by_cases c3:e%p.inc=0
    ·refine xx ?_;refine Zrc p ok h1 e b he hb ?_;refine xx ?_;exact ZP (ZP (ZO (by simpa [UG,c1,c2,c3] using hk)))
    ·refine xx ?_;exact ZP (ZP (ZO (by simpa [UG,c1,c2,c3] using hk)))
   ·refine xx ?_;exact ZP (ZP (ZO (by simpa [UG,c1,c2] using hk)))
  ·refine xx ?_;exact ZP (ZP (ZO (by simpa [UG,c1] using hk)))
def Zba (p:Ze)(m:Zc):Zc:={ m with score:=min m.score p.scoreCap,streak:=min (max m.streak 0) p.streak }
abbrev Zsu (m:Zc):Value := .agg #[.int .u64 m.bal,.int .u64 m.eff,.int .u64 m.score,.int .i64 m.streak]
abbrev Yeu (m:Zc):Value := .agg #[.int .u64 m.bal,.int .u64 m.eff,.int .u64 m.score,.int .i64 m.streak,.int .i64 m.owner,.int .i64 m.status]
theorem Ybo (b:Nat)(p:Ze)(m:Zc)(hb:h b=noC)(hk:K (.tuple #[]) (⟨b,327,[.int .u64 m.bal,.int .u64 m.eff,.int .u64 (min m.score p.scoreCap),.int .i64 (min (max m.streak 0) p.streak)]++Jb p,28⟩::L) h) :
  Zb prog 274 [.pointer (some ⟨b,0,none⟩)] (⟨b,327,[.int .u64 m.bal,.int .u64 m.eff,.int .u64 m.score,.int .i64 m.streak]++Jb p,28⟩::L) h K:=by
 simp only[List.cons_append,List.nil_append]at hk ⊢;refine ZR func274 rfl (rs:=[]) rfl rfl ZY (by kernel_rfl) rfl rfl ?_;refine xx ?_;refine Yr (.tk 0 (.tk 1 (.tk 2 (.tk 3 (.tk 4 (.tk 6 (.tk 7 (.tk 8 (.tk 9 (.tkl 5 (.tkl 10 (.o1 11 (.tk 12 (.tk 13 (.tk 14 (.o2 15 (.fin) (.nil))))) (.nil))))))))))))) (by kernel_rfl) (by kernel_rfl) _ (Za.refl _ _) ?_;refine xx ?_;refine Yr (.tk 0 (.tk 1 (.tk 2 (.tk 3 (.tk 4 (.tk 7 (.tk 8 (.tk 9 (.tk 10 (.tkl 5 (.tkl 11 (.o1 6 (.o1 12 (.tk 13 (.tk 14 (.tk 15 (.o2 16 (.fin) (.nil))))) (.nil)) (.nil))))))))))))) (by kernel_rfl) (by kernel_rfl) _ (Za.refl _ _) ?_;simp -dsimp -implicitDefEqProofs (disch:=first|with_reducible assumption|omega) [go_sem,Y6];exact ZO hk
theorem Zjs (p:Ze)(ok:Zj p)(m:Zc)(hk:K (Zsu (if Ym p then Zba p m else m)) L h):Zb prog 164 [VQ p,Zsu m] L h K:=by
 refine ZR func164 rfl (rs:=[_]) rfl rfl ZY (by kernel_rfl) rfl rfl ?_;refine xx ?_;refine Z6 fun b1 nb1 zb1=>?_;(try simp only[ZU]at nb1);refine xx ?_;refine Z6 fun b2 nb2 zb2=>?_;(try simp only[ZU]at nb2);refine xx ?_;refine Z6 fun b3 nb3 zb3=>?_;(try simp only[ZU]at nb3);refine xx ?_;refine Vc p ok ?_
 cases hr:Ym p with
 | false =>
  rw[hr]at hk;refine xx ?_;exact ZP (ZP (ZP (ZO hk)))
 | true =>
  rw[hr]at hk;refine xx ?_;refine Z6 fun b4 nb4 zb4=>?_;(try simp only[ZU]at nb4);refine xx ?_;refine Ybo b4 p m zb4 ?_;refine xx ?_;exact ZP (ZP (ZP (ZP (ZO hk))))
def Uu (p:Ze)(m:Zc):Bool :=
 if m.status=2∨m.status=3 then decide (p.floor<m.bal)&&decide (m.bal≤p.cap)&&UG p m.eff m.bal
 else if m.status=1 then decide (1≤m.bal)&&decide (m.bal≤p.cap)&&decide (m.eff=0)
 else if m.status=4∨m.status=5 then decide (m.bal=0)&&decide (m.eff=0) else false
theorem Zxg (p:Ze)(ok:Zj p)(hr:Ym p=true)(m:Zc)(mo:Zg m)(hk:K (.bool (Uu p m)) L h):Zb prog 237 [Yeu m,VQ p] L h K:=by
 have ub:0≤m.bal∧m.bal≤18446744073709551615:=mo.u _ (by simp);have ue:0≤m.eff∧m.eff≤18446744073709551615:=mo.u _ (by simp);unfold Uu at hk;refine ZR func237 rfl (rs:=[_]) rfl rfl ZY (by kernel_rfl) rfl rfl ?_;refine xx ?_;refine Z6 fun b1 nb1 zb1=>?_;(try simp only[ZU]at nb1);refine xx ?_;refine Z6 fun b2 nb2 zb2=>?_;(try simp only[ZU]at nb2);refine xx ?_;by_cases c0:m.status=2∨m.status=3
 ·rw[if_pos c0]at hk;have key:∀(X:Prop),(m.status=2→X)→(¬m.status=2→m.status=3→X)→X:=fun X a b=>by
   by_cases e:m.status=2
   ·exact a e
   ·exact b e (by omega)
  refine key _ (fun e=>?_) (fun e e'=>?_) <;>
  ·refine xx ?_;by_cases c1:p.floor<m.bal
   ·by_cases c2:m.bal≤p.cap
    ·refine xx ?_;refine Zmp p ok _ _ ue ub ?_;refine xx ?_;exact ZP (ZP (ZO (by simpa [hr,c1,c2] using hk)))
    ·refine xx ?_;exact ZP (ZP (ZO (by simpa [c1,c2] using hk)))
   ·refine xx ?_;exact ZP (ZP (ZO (by simpa [c1] using hk)))
 ·rw[if_neg c0]at hk;have e2:¬m.status=2:=fun e=>c0 (.inl e);have e3:¬m.status=3:=fun e=>c0 (.inr e);by_cases e1:m.status=1
  ·rw[if_pos e1]at hk;refine xx ?_;by_cases c1:1≤m.bal
   ·by_cases c2:m.bal≤p.cap
    ·refine xx ?_;exact ZP (ZP (ZO (by simpa [c1,c2] using hk)))
    ·refine xx ?_;exact ZP (ZP (ZO (by simpa [c1,c2] using hk)))
   ·refine xx ?_;exact ZP (ZP (ZO (by simpa [c1] using hk)))
  ·rw[if_neg e1]at hk;by_cases e4:m.status=4
   ·rw[if_pos (Or.inl e4)]at hk;refine xx ?_;by_cases c1:m.bal=0
    ·refine xx ?_;exact ZP (ZP (ZO (by simpa [c1] using hk)))
    ·refine xx ?_;exact ZP (ZP (ZO (by simpa [c1] using hk)))
   ·by_cases e5:m.status=5
    ·rw[if_pos (Or.inr e5)]at hk;refine xx ?_;by_cases c1:m.bal=0
     ·refine xx ?_;exact ZP (ZP (ZO (by simpa [c1] using hk)))
     ·refine xx ?_;exact ZP (ZP (ZO (by simpa [c1] using hk)))
    ·rw[if_neg (by omega)]at hk;refine xx ?_;exact ZP (ZP (ZO hk))
def Zmu (m:Zc):List Int:=[m.bal,m.eff,m.score,m.streak]
theorem eqStd (m q:Zc)(x y:Operand)(K:Value→Prop)(t:Zq K):Uj prog .eql 71 x y (Zsu m) (Zsu q) K t=K (.bool (decide (Zmu m=Zmu q))) :=
 GF (T:=71) (ks:=[.u64,.u64,.u64,.i64]) (by kernel_rfl) (by kernel_rfl) (by kernel_rfl) (by kernel_rfl) (Zmu m) (Zmu q) rfl rfl x y K t
def Vv (p:Ze)(m:Zc):Bool:=decide (0≤m.owner)&&decide (m.owner<64)&&decide (Zmu (Zba p m)=Zmu m)&&Uu p m
theorem Ybk (p:Ze)(ok:Zj p)(m:Zc)(mo:Zg m)(hk:K (.bool (Ym p&&Vv p m)) L h):Zb prog 129 [VQ p,Yeu m] L h K:=by
 refine ZR func129 rfl (rs:=[_]) rfl rfl ZY (by kernel_rfl) rfl rfl ?_;refine xx ?_;refine Z6 fun b1 nb1 zb1=>?_;(try simp only[ZU]at nb1);refine xx ?_;refine Z6 fun b2 nb2 zb2=>?_;(try simp only[ZU]at nb2);refine xx ?_;refine Vc p ok ?_
 cases hr:Ym p with
 | false =>
  rw[hr]at hk;refine xx ?_;exact ZP (ZP (ZO (by simpa using hk)))
 | true =>
  rw[hr]at hk;by_cases c1:m.owner<0
  ·refine xx ?_;exact ZP (ZP (ZO (by simpa [Vv,show ¬ 0≤m.owner by omega] using hk)))
  ·by_cases c2:64≤m.owner
   ·refine xx ?_;exact ZP (ZP (ZO (by simpa [Vv,show ¬m.owner<64 by omega] using hk)))
   ·refine xx ?_;refine Yr (.tk 1 (.tk 4 (.tkl 0 (.tkl 2 (.tkl 5 (.o1 3 (.tk 6 (.tk 7 (.tkl 8 (.tk 9 (.tkl 10 (.o1 11 (.tk 12 (.tk 13 (.fin))) (.nil))))))) (.nil))))))) (by kernel_rfl) (by kernel_rfl) _ (Za.refl _ _) ?_;refine xx ?_;refine Zjs p ok m ?_;rw[if_pos hr];refine xkp (Za.refl _ _) ?_;simp -dsimp -implicitDefEqProofs (disch:=first|with_reducible assumption|omega) [go_sem,eqStd];have hf:Vv p m=(decide (Zmu (Zba p m)=Zmu m)&&Uu p m):=by simp [Vv,show 0≤m.owner by omega,show m.owner<64 by omega]
    rw[hf]at hk
    cases hq:decide (Zmu (Zba p m)=Zmu m) with
    | false =>
     rw[hq]at hk;refine xx ?_;exact ZP (ZP (ZO (by simpa using hk)))
    | true =>
     rw[hq]at hk;refine xx ?_;refine Zxg p ok hr m mo ?_;refine xkp (Za.refl _ _) ?_;refine xx ?_;exact ZP (ZP (ZO (by simpa using hk)))
end Go.X
