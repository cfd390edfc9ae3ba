/- Lemmas and contracts. Conditions: as each says. -/
import Derived.Laws.Externs
import Derived.Test.YtllhopbilpdpkaaGreatQ11
set_option linter.unusedVariables false
set_option linter.unusedSimpArgs false
set_option maxHeartbeats 12800000
set_option maxRecDepth 20000
namespace Go.X
open Go.RowKit Go.Proofs Go.Bl Go.Proofs.Tryz
variable {L:Own} {h:PH} {K:PK}
def YE (zs:List Int):Nat->Int
 | 0=>0
 | k+1=>YE zs k+at0 zs k
def tot (zs:List Int):Int:=YE zs zs.length
theorem Gz {zs:List Int}(h0:∀i,0<=at0 zs i):∀ {k m:Nat},k<=m->YE zs k<=YE zs m:=fun {k m} hkm=>by
  induction m with
  | zero => have : k = 0 := by omega
            subst this;exact Int.le_refl _
  | succ m ih =>
    by_cases e:k=m+1
    · subst e;exact Int.le_refl _
    · have:=ih qf;have:=h0 m;simp only[YE];omega
theorem VZ {zs:List Int}(h0:∀i,0<=at0 zs i)(k:Nat):0<=YE zs k:=by
 have:=Gz h0 (Nat.zero_le k)
 simpa [YE] using this
def Zuo (n:Int):Value:=if n<=18446744073709551615 then .tuple #[.int .u64 n,.int .i64 0] else .tuple #[.int .u64 0,.int .i64 10]
theorem YR {n:Int}(c:n<=18446744073709551615):Zuo n = .tuple #[.int .u64 n,.int .i64 0]:=by simp [Zuo,c]
theorem Wy {n:Int}(c:¬n<=18446744073709551615):Zuo n = .tuple #[.int .u64 0,.int .i64 10]:=by simp [Zuo,c]
theorem Yak (x y:Int)(hx:0<=x)(hy:0<=y)(hk:K (.tuple #[.int .u64 ((x+y)%18446744073709551616),.int .u64 ((x+y)/18446744073709551616)]) L h):Zb prog 288 [.int .u64 x,.int .u64 y,.int .u64 0] L h K :=
 Zb.extern (fun W=>by
  show (callFunc 288 #[.int .u64 x,.int .u64 y,.int .u64 0]).run prog W=_;rw[run_callFunc_extern func288 qg qg qg (e:=add64Entry) qg,run_add64 x y 0 hx hy qh qh,Int.add_zero]
  rfl) hk
theorem WV (x y:Int)(hx:0<=x/\x<=18446744073709551615)(hy:0<=y/\y<=18446744073709551615)(hk:K (Zuo (x+y)) L h):Zb prog 178 [.int .u64 x,.int .u64 y] L h K:=by
 refine eF func178 ?_;refine xx ?_;refine Yak x y hx.1 hy.1 ?_;by_cases c:x+y<=18446744073709551615
 ·have e1:(x+y)%18446744073709551616=x+y:=qf;have e2:(x+y)/18446744073709551616=0:=qf;rw[YR c]at hk;rw[e1,e2];refine xx ?_;exact ZP hk
 ·have e2:(x+y)/18446744073709551616=1:=qf;rw[Wy c]at hk;rw[e2];refine xx ?_;exact ZP hk
theorem WO {zs:List Int}(v:Value)(hz:Ints h .u64 v zs)(hk:K (Zuo (tot zs)) L h):Zb prog 153 [v] L h K:=by
 have hw:=hz.word;have h0:∀i,0<=at0 zs i:=fun i=>(hw i).1;obtain⟨a,c,rfl,hn,hc,_,hcs⟩:=hz.open;refine eF func153 ?_;refine xx ?_;refine Y1 (0:Nat) (fun k=>k<=zs.length/\YE zs k<=18446744073709551615) (fun k=>[(11,.int .i64 k),(10,.int .i64 zs.length),(9,.slice a zs.length c),(4,.int .u64 (YE zs k))]) (fun k=>zs.length-k) ?_ ?_ ?_
 ·exact⟨Nat.zero_le _,by simp [YE]⟩
 ·simp [Ent,List.lookup,YT,YE]
 rintro k ⟨k1,k2⟩;by_cases c1:k<zs.length
 ·have hs:=VZ h0 k;refine xe ?_;refine WV _ _ ⟨hs,k2⟩ (hw k) ?_;by_cases c2:YE zs k+at0 zs k<=18446744073709551615
  ·rw[YR c2];refine xx ?_;exact⟨k+1,⟨qf,c2⟩,qf,by simp [Ent,List.lookup,YE],Za.refl _ _⟩
  ·have:=Gz h0 (show k+1<=zs.length from qf);rw[Wy (show ¬tot zs<=18446744073709551615 by simp only[YE,tot]at *;omega)]at hk;rw[Wy c2];refine xx ?_;exact ZP hk
 ·have hkl:k=zs.length:=qf;subst hkl;rw[YR (n:=tot zs) k2]at hk;refine xx ?_;exact ZP hk
theorem Yez {zs:List Int}(v:Value)(hz:Ints h .u64 v zs)(hk:K (Zuo (tot zs)) L h):Zb prog 286 [v] L h K:=by
 refine eF func286 ?_;refine xx ?_;refine WO v hz ?_;by_cases c:tot zs<=18446744073709551615
 ·rw[YR c]at hk ⊢;refine xx ?_;exact ZP hk
 ·rw[Wy c]at hk ⊢;refine xx ?_;exact ZP hk
theorem Zdx {zs:List Int}(most:Int)(v:Value)(hz:Ints h .u64 v zs)(hm:most<=18446744073709551615)(hk:K (.bool (decide (tot zs<=most))) L h):Zb prog 176 [.int .u64 most,v] L h K:=by
 refine ed func176 ?_;refine xx ?_;refine WO v hz ?_;by_cases c:tot zs<=18446744073709551615
 ·rw[YR c];refine xx ?_;exact ZP hk
 ·rw[decide_eq_false (show ¬tot zs<=most from qf)]at hk;rw[Wy c];refine xx ?_;exact ZP hk
theorem Zji {zs:List Int}(v:Value)(hz:Ints h .i64 v zs)(hk:K (.bool (zs.all fun z=>decide (z=0))) L h):Zb prog 179 [v] L h K:=by
 obtain⟨a,c,rfl,hn,hc,_,hcs⟩:=hz.open;refine ed func179 ?_;refine xx ?_;refine Y1 (0:Nat) (fun k=>k<=zs.length/\∀j,j<k->at0 zs j=0) (fun k=>[(7,.int .i64 k),(6,.int .i64 zs.length),(5,.slice a zs.length c)]) (fun k=>zs.length-k) ?_ ?_ ?_
 ·exact⟨Nat.zero_le _,fun j hj=>qf⟩
 ·simp [Ent,List.lookup,YT]
 rintro k ⟨k1,k2⟩;by_cases c1:k<zs.length
 ·by_cases c2:at0 zs k=0
  ·refine xe ?_;refine⟨k+1,⟨qf,fun j hj=>?_⟩,qf,qi,Za.refl _ _⟩;by_cases e:j=k
   ·subst e;exact c2
   ·exact k2 j qf
  ·have:(zs.all fun z=>decide (z=0))=false:=by
    rw[List.all_eq_false];exact⟨zs[k],List.getElem_mem c1,by simp [Ys,c2]⟩
   rw[this]at hk;refine xe ?_;exact ZP hk
 ·have:(zs.all fun z=>decide (z=0))=true:=by
   rw[List.all_eq_true];intro x hx;obtain⟨j,hj,rfl⟩:=List.mem_iff_getElem.1 hx;simp [Ys,k2 j qf]
  rw[this]at hk;refine xx ?_;exact ZP hk
def Jg {α:Type}(f:α->Int)(l:List α)(k:Nat):List Value:=((l.take k).map f).map (.int .u64)
theorem Wq {α:Type}{f:α->Int}{l:List α}{k:Nat}(hk:k<=l.length):(Jg f l k).length=k*1:=by simp [Jg,hk]
theorem Vu {α:Type}{f:α->Int}{l:List α}{k:Nat}(z:α)(hk:k<l.length):Jg f l (k+1)=Jg f l k++[.int .u64 (f (gr z l k))]:=by
 rw[Ye hk,Jg,Jg,List.take_succ_eq_append_getElem hk,List.map_append,List.map_append];rfl
theorem Jr {α:Type}{f:α->Int}{l:List α}{h:PH}{v:Value}(sl:Sl h v l.length 1 (Jg f l l.length))(hm:∀x∈l,0<=f x/\f x<=18446744073709551615):Ints h .u64 v (l.map f):=by
 refine⟨?_,fun z hz=>?_⟩
 ·simpa [Jg] using sl
 ·obtain⟨x,hx,rfl⟩:=List.mem_map.1 hz;exact hm x hx
theorem Zju {l:List Zc}(v:Value)(hd0:Zd YD 6 h v l)(hm:∀x∈l,Zf x)(hn:l.length<=100000)(hk:∀h' r,PH.le h h'->Ints h' .u64 r (l.map Zc.bal)->K r L h'):Zb prog 285 [v] L h K:=by
 obtain⟨a,c,rfl,hc,hl,_,hd⟩:=hd0.open;refine ed func285 ?_;refine xx ?_;refine Yi (γ:=Nat×Option (Nat×Nat)) (0,none) (fun s=>s.1<=l.length/\okO s.2 s.1/\apO s.2 L h) (fun s=>[(8,.int .i64 s.1),(7,.int .i64 l.length),(6,.slice a l.length c),(3,ovs s.2 s.1)])
  (fun s=>oent 22 1 s.2 (Jg Zc.bal l s.1) L) (fun _=>h) (fun s=>l.length-s.1) ?_ ?_ ?_ ?_
 ·exact⟨Nat.zero_le _,rfl,trivial⟩
 ·simp [Ent,List.lookup,YT,ovs]
 ·exact Za.refl _ _
 rintro⟨k,o⟩ ⟨k1,k2,k3⟩;simp only at k1 k2 k3 ⊢;by_cases c1:k<l.length
 ·refine xh ?_;refine ZY fun b1 nb1 zb1=>?_;(try simp only[ZS]at nb1);refine xm ?_;refine ZY fun b2 nb2 zb2=>?_;(try simp only[ZS]at nb2);refine xm ?_;refine ZZ (t:=25) (e:=22) (sz:=1) (bytes:=8) qg Vw rfl rfl rfl rfl qh [_,_] L o k (Jg Zc.bal l k) k2 (Wq k1) (Src.own List.mem_cons_self) (m:=1) (news:=[.int .u64 (gr ZQ l k).bal]) rfl qy qm qf ?_;intro o' j1 j2 j3;refine xx ?_;refine⟨k+1,o',⟨qf,j1,ZV (ZV j2)⟩,qf,qi,?_⟩;rw[Vu ZQ c1];exact(Za.tail _ _ _).trans (Za.tail _ _ _)
 ·have hkl:k=l.length:=qf;subst hkl;refine xx ?_;exact Yv (n:=l.length) k2 (Wq (Nat.le_refl _)) qf k3 fun h' le sl=>ZP (hk h' _ le (Jr sl fun x hx=>(hm x hx).u _ qj))
theorem Zrq (d:Zk)(hk:K (.int .u64 d.amt) L h):Zb prog 348 [.agg #[.int .i64 d.au,.int .i64 d.mem,.int .u64 d.amt,.bool d.new]] L h K:=by
 refine ed func348 ?_;refine xx ?_;refine ZY fun b1 nb1 zb1=>?_;(try simp only[ZS]at nb1);refine xx ?_;exact ZO (ZP hk)
theorem Zuq (d:Zh)(hk:K (.int .u64 d.amt) L h):Zb prog 350 [.agg #[.int .i64 d.au,.int .i64 d.at',.int .u64 d.amt]] L h K:=by
 refine ed func350 ?_;refine xx ?_;refine ZY fun b1 nb1 zb1=>?_;(try simp only[ZS]at nb1);refine xx ?_;exact ZO (ZP hk)
theorem Zee {l:List Zk}(v:Value)(hd0:Zd UK 4 h v l)(hn:l.length<=100000)(hk:∀o,okO o l.length->apO o L h->K (ovs o l.length) (oent 22 1 o (Jg Zk.amt l l.length) L) h):Zb prog 347 [v,.func (.func 348) #[] #[]] L h K:=by
 obtain⟨a,c,rfl,hc,hl,_,hd⟩:=hd0.open;refine ed func347 ?_;refine xx ?_;refine Yi (γ:=Nat×Option (Nat×Nat)) (0,none) (fun s=>s.1<=l.length/\okO s.2 s.1/\apO s.2 L h) (fun s=>[(10,.int .i64 s.1),(9,.int .i64 l.length),(8,.slice a l.length c),(5,ovs s.2 s.1),(1,.func (.func 348) #[] #[])])
  (fun s=>oent 22 1 s.2 (Jg Zk.amt l s.1) L) (fun _=>h) (fun s=>l.length-s.1) ?_ ?_ ?_ ?_
 ·exact⟨Nat.zero_le _,rfl,trivial⟩
 ·simp [Ent,List.lookup,YT,ovs]
 ·exact Za.refl _ _
 rintro⟨k,o⟩ ⟨k1,k2,k3⟩;simp only at k1 k2 k3 ⊢;by_cases c1:k<l.length
 ·refine xn ?_;refine ZY fun b1 nb1 zb1=>?_;(try simp only[ZS]at nb1);refine xq ?_;refine Zrq (gr Yg l k) ?_;refine xx ?_;refine ZY fun b2 nb2 zb2=>?_;(try simp only[ZS]at nb2);refine xx ?_;refine ZZ (t:=25) (e:=22) (sz:=1) (bytes:=8) qg Vw rfl rfl rfl rfl qh [_,_] L o k (Jg Zk.amt l k) k2 (Wq k1) (Src.own List.mem_cons_self) (m:=1) (news:=[.int .u64 (gr Yg l k).amt]) rfl qy qm qf ?_;intro o' j1 j2 j3;refine xx ?_;refine⟨k+1,o',⟨qf,j1,ZV (ZV j2)⟩,qf,qi,?_⟩;rw[Vu Yg c1];exact(Za.tail _ _ _).trans (Za.tail _ _ _)
 ·have hkl:k=l.length:=qf;subst hkl;refine xx ?_;exact ZP (hk o k2 k3)
theorem Zei {l:List Zh}(v:Value)(hd0:Zd Yh 3 h v l)(hn:l.length<=100000)(hk:∀o,okO o l.length->apO o L h->K (ovs o l.length) (oent 22 1 o (Jg Zh.amt l l.length) L) h):Zb prog 349 [v,.func (.func 350) #[] #[]] L h K:=by
 obtain⟨a,c,rfl,hc,hl,_,hd⟩:=hd0.open;refine ed func349 ?_;refine xx ?_;refine Yi (γ:=Nat×Option (Nat×Nat)) (0,none) (fun s=>s.1<=l.length/\okO s.2 s.1/\apO s.2 L h) (fun s=>[(10,.int .i64 s.1),(9,.int .i64 l.length),(8,.slice a l.length c),(5,ovs s.2 s.1),(1,.func (.func 350) #[] #[])])
  (fun s=>oent 22 1 s.2 (Jg Zh.amt l s.1) L) (fun _=>h) (fun s=>l.length-s.1) ?_ ?_ ?_ ?_
 ·exact⟨Nat.zero_le _,rfl,trivial⟩
 ·simp [Ent,List.lookup,YT,ovs]
 ·exact Za.refl _ _
 rintro⟨k,o⟩ ⟨k1,k2,k3⟩;simp only at k1 k2 k3 ⊢;by_cases c1:k<l.length
 ·refine xu ?_;refine ZY fun b1 nb1 zb1=>?_;(try simp only[ZS]at nb1);refine xw ?_;refine Zuq (gr ZT l k) ?_;refine xx ?_;refine ZY fun b2 nb2 zb2=>?_;(try simp only[ZS]at nb2);refine xx ?_;refine ZZ (t:=25) (e:=22) (sz:=1) (bytes:=8) qg Vw rfl rfl rfl rfl qh [_,_] L o k (Jg Zh.amt l k) k2 (Wq k1) (Src.own List.mem_cons_self) (m:=1) (news:=[.int .u64 (gr ZT l k).amt]) rfl qy qm qf ?_;intro o' j1 j2 j3;refine xx ?_;refine⟨k+1,o',⟨qf,j1,ZV (ZV j2)⟩,qf,qi,?_⟩;rw[Vu ZT c1];exact(Za.tail _ _ _).trans (Za.tail _ _ _)
 ·have hkl:k=l.length:=qf;subst hkl;refine xx ?_;exact ZP (hk o k2 k3)
theorem Zb.fin {f:FuncId}{args:List Value}{L:Own}{h:PH}{K:PK}(hs:Zb prog f args L h fun v L' h'=>fin K v L' h'):Zb prog f args L h K :=
 ⟨trivial,fun W hg=>(hs.2 W hg).mono fun e W' ⟨r,L',h',he,⟨L2,h2,hd,hk⟩,st⟩=>by
  obtain⟨g,f⟩:=hd W' st.1;refine⟨r,L2,h2,he,hk,g,st.2.1,fun e he=>?_⟩;obtain⟨e',he',hb⟩:=List.mem_map.1 (f e he)
  rw[<- hb];exact st.2.2 e' he'⟩
theorem Wk {v:Value}{h':PH}(le:PH.le h h')(hk:fin K v L h):fin K v L h':=by
 obtain⟨L2,h2,hd,hk⟩:=hk;exact⟨L2,h2,(Za.forget le).trans hd,hk⟩
theorem Zaf:tot []=0:=rfl
theorem Zqq {l:List Zk}{m:List Zh}(v u:Value)(hv:Zd UK 4 h v l)(hu:Zd Yh 3 h u m)(hl:∀x∈l,ZG x)(hm:∀x∈m,Zs x)(nl:l.length<=100000)(nm:m.length<=100000)
  (hk:K (Zuo (tot (l.map Zk.amt++m.map Zh.amt))) L h):Zb prog 287 [v,u] L h K:=by
 have ov:=hv.open;obtain⟨va,vc,rfl,_⟩:=ov;have ou:=hu.open;obtain⟨ua,uc,rfl,_⟩:=ou;refine eF func287 ?_;refine xx ?_;refine Zee _ hv nl fun o k1 k2=>?_;refine xx ?_;refine Zei _ hu nm fun o2 j1 j2=>?_;refine xx ?_;have c1:=Wq (f:=Zk.amt) (l:=l) (Nat.le_refl _);have c2:=Wq (f:=Zh.amt) (l:=m) (Nat.le_refl _);have conv:∀(h':PH) (w:Value),Sl h' w (l.length+m.length) 1 (Jg Zk.amt l l.length++Jg Zh.amt m m.length)->Ints h' .u64 w (l.map Zk.amt++m.map Zh.amt):=fun h' w sl=>by
  refine⟨?_,fun z hz=>?_⟩
  ·simpa [Jg] using sl
  ·rcases List.mem_append.1 hz with hz|hz
   ·obtain⟨x,hx,rfl⟩:=List.mem_map.1 hz;exact(hl x hx).a
   ·obtain⟨x,hx,rfl⟩:=List.mem_map.1 hz;exact(hm x hx).a
 cases o2 with
 | none =>
  have hm0:m.length=0:=j1;have hm0':m=[]:=List.eq_nil_of_length_eq_zero hm0;subst hm0';have hk:K (Zuo (tot (l.map Zk.amt))) L h:=qA;simp only[oent,ovs];refine ZZ (t:=25) (e:=22) (sz:=1) (bytes:=8) qg Vw rfl rfl rfl rfl qh [] L o l.length (Jg Zk.amt l l.length) k1 c1 (Src.known (n:=0) (sz:=1) (cs:=[]) (Y7 h .u64).1) (m:=0) (news:=[]) rfl qj qm qf ?_;intro o' i1 i2 i3;refine xx ?_;refine WT (n:=l.length) i1 (by simpa using c1) qf i2 fun h' le sl=>?_;refine WO (zs:=l.map Zk.amt) _ (by simpa using conv h' _ (by simpa [Jg] using sl)) ?_;by_cases c:tot (l.map Zk.amt)<=18446744073709551615
  ·rw[YR c]at hk ⊢;refine xx ?_;exact Wk le (ZP hk)
  ·rw[Wy c]at hk ⊢;refine xx ?_;exact Wk le (ZP hk)
 | some p =>
  obtain⟨b2,cap2⟩:=p;simp only[oent,ovs];refine ZZ (t:=25) (e:=22) (sz:=1) (bytes:=8) qg Vw rfl rfl rfl rfl qh [_] L o l.length (Jg Zk.amt l l.length) k1 c1 (Src.own List.mem_cons_self) (m:=m.length) (news:=Jg Zh.amt m m.length) c2 (by intro u hu;simp only[Jg,List.mem_map]at hu;obtain⟨_,_,rfl⟩:=hu;rfl) qm qf ?_;intro o' i1 i2 i3;refine xx ?_;refine Zkr (WT (n:=l.length+m.length) i1 (by rw[List.length_append,c1,c2];omega) qf (ZV i2) fun h' le sl=>?_);refine WO _ (conv h' _ sl) ?_;by_cases c:tot (l.map Zk.amt++m.map Zh.amt)<=18446744073709551615
  ·rw[YR c]at hk ⊢;refine xx ?_;exact Wk le (ZP hk)
  ·rw[Wy c]at hk ⊢;refine xx ?_;exact Wk le (ZP hk)
def Zra (s:Zg):Int:=tot (s.ae.map Zc.bal)
def Zoy (s:Zg):Int:=tot s.ag
def GB (s:Zg):Int:=tot (s.aj.map Zk.amt)
def Zqk (s:Zg):Int:=tot (s.ai.map Zh.amt)
def Zkl (n:Int):Int:=if n<=18446744073709551615 then 0 else 10
theorem UX (n:Int):Zuo n = .tuple #[.int .u64 (if n<=18446744073709551615 then n else 0),.int .i64 (Zkl n)]:=by
 unfold Zuo Zkl;split<;>rfl
structure Zy (s:Zg):Prop where
 p:s.ag.length<=100000
 m:s.ae.length<=100000
 e:s.entry.length<=100000
 x:s.exit.length<=100000
 o:s.aj.length<=100000
 d:s.ai.length<=100000
 t:s.ah.length<=100000
 r:s.ring.length<=100000
theorem Ydg (a b c d e:Int):tot [a,b,c,d,e]=a+b+c+d+e:=by simp [tot,YE,at0]
theorem Zxd (a b:Int):tot [a,b]=a+b:=by simp [tot,YE,at0]
theorem Ym {zs:List Int}(h0:∀i,0<=at0 zs i):0<=tot zs:=VZ h0 _
def JA (s:Zg):Bool:=decide (Zra s<=18446744073709551615)&&decide (Zoy s<=18446744073709551615)&&decide (GB s<=18446744073709551615)&&decide (Zqk s<=18446744073709551615)
def Zjc (s:Zg):Value:=if JA s then .tuple #[.agg #[.int .u64 (Zra s),.int .u64 (Zoy s),.int .u64 (GB s),.int .u64 (Zqk s),.int .u64 s.an],.int .i64 0] else .tuple #[.agg #[.int .u64 0,.int .u64 0,.int .u64 0,.int .u64 0,.int .u64 0],.int .i64 10]
theorem Yds (a b c d:Int):([Zkl a,Zkl b,Zkl c,Zkl d].all fun z=>decide (z=0))=(decide (a<=18446744073709551615)&&decide (b<=18446744073709551615)&&decide (c<=18446744073709551615)&&decide (d<=18446744073709551615)):=by
 have e:∀n,decide (Zkl n=0)=decide (n<=18446744073709551615):=fun n=>by unfold Zkl;split<;>simp [*]
 simp only[List.all_cons,List.all_nil,e,Bool.and_true,Bool.and_assoc]
theorem Zwq {s:Zg}(v:SV)(hs:Zp h v s)(few:Zy s)(hk:K (Zjc s) L h):Zb prog 175 [stV s v] L h K:=by
 obtain⟨pa,pc,hp,_⟩:=hs.p.open;obtain⟨ma,mc,hm,_⟩:=hs.m.open;obtain⟨oa,oc,ho,_⟩:=hs.o.open;obtain⟨da,dc,hd,_⟩:=hs.d.open;refine eF func175 ?_;refine xx ?_;refine ZY fun b1 nb1 zb1=>?_;(try simp only[ZS]at nb1);refine xx ?_;refine ZY fun b2 nb2 zb2=>?_;(try simp only[ZS]at nb2);refine xx ?_;refine Zb.apn (Zju _ hs.m hs.mo few.m fun h1 r1 le1 i1 ap nd=>?_);obtain⟨ap1,ap2,ap3⟩:=ap;refine xx ?_;refine WO _ i1 ?_;rw[UX];refine xx ?_;refine Yez _ (hs.p.up le1) ?_;rw[UX];refine xx ?_;refine Zqq _ _ (hs.o.up le1) (Zd.nil Yd h1) hs.oo (fun x hx=>zh) few.o qj ?_;simp only[List.map_nil,List.append_nil];rw[UX];refine xx ?_;refine Zqq _ _ (Zd.nil VM h1) (hs.d.up le1) (fun x hx=>zh) hs.dd qj few.d ?_;simp only[List.map_nil,List.nil_append];rw[UX];refine xx ?_;refine ZY fun b3 nb3 zb3=>?_;(try simp only[ZS]at nb3);refine xx ?_;refine Ws (sz:=1) (n:=4) (cap:=4) [] ⟨Nat.le_refl _,qh⟩ rfl qh zb3 fun h2 le2 s2 f2=>?_;have q1:h2 b2=noC:=by rw[f2 _ nb3.1];exact ap1
 have q2:h2 b1=noC:=by rw[f2 _ nb3.2.1];exact ap2
 refine Zji (zs:=[Zkl (Zra s),Zkl (Zoy s),Zkl (GB s),Zkl (Zqk s)]) _ ⟨s2,fun z hz=>?_⟩ ?_
 ·simp only[List.mem_cons,List.not_mem_nil,or_false]at hz;rcases hz with rfl|rfl|rfl|rfl<;>(unfold Zkl;split<;>decide)
 rw[Yds]
 cases hB:JA s with
 | false =>
  rw[Zjc,if_neg (by rw[hB];exact Bool.false_ne_true)]at hk;rw[JA]at hB;rw[hB];simp only[List.nil_append];refine xx ?_;exact ZO (ZO (Wk (le1.trans le2) (ZP hk)))
 | true =>
  rw[Zjc,if_pos hB]at hk;rw[JA]at hB;rw[hB];simp only[JA,Bool.and_eq_true,decide_eq_true_eq]at hB;obtain⟨⟨⟨e1,e2⟩,e3⟩,e4⟩:=hB;simp only[Zra,Zoy,GB,Zqk]at e1 e2 e3 e4 hk;simp only[if_pos e1,if_pos e2,if_pos e3,if_pos e4];simp only[List.nil_append];refine xx ?_;exact ZO (ZO (Wk (le1.trans le2) (ZP hk)))
theorem Yay (a b c d e:Int)(ha:0<=a/\a<=18446744073709551615)(hb:0<=b/\b<=18446744073709551615)(hc:0<=c/\c<=18446744073709551615)(hd:0<=d/\d<=18446744073709551615)(he:0<=e/\e<=18446744073709551615)
  (hk:K (Zuo (a+b+c+d+e)) L h):Zb prog 177 [.agg #[.int .u64 a,.int .u64 b,.int .u64 c,.int .u64 d,.int .u64 e]] L h K:=by
 rw[UX]at hk;refine eF func177 ?_;refine xx ?_;refine ZY fun b1 nb1 zb1=>?_;(try simp only[ZS]at nb1);refine xx ?_;refine ZY fun b2 nb2 zb2=>?_;(try simp only[ZS]at nb2);refine xx ?_;refine Ws (sz:=1) (n:=5) (cap:=5) [] ⟨Nat.le_refl _,qh⟩ rfl qh zb2 fun h2 le2 s2 f2=>?_;refine WO (zs:=[a,b,c,d,e]) _ ⟨s2,fun z hz=>?_⟩ ?_
 ·simp only[List.mem_cons,List.not_mem_nil,or_false]at hz;rcases hz with rfl|rfl|rfl|rfl|rfl<;>assumption
 rw[Ydg,UX];simp only[List.nil_append];refine xx ?_;exact ZO (Wk le2 (ZP hk))
def Zlo (s:Zg):Int:=Zra s+Zoy s+GB s+Zqk s+s.an
def Wn (s:Zg):Bool:=decide (s.gen+s.aB<=s.most)&&decide (s.most<=4611686018427387904)&&decide (Zlo s+s.aG=s.gen+s.aB)
theorem W9 {α:Type}(f:α->Int)(l:List α)(hm:∀x∈l,0<=f x)(i:Nat):0<=at0 (l.map f) i:=by
 unfold at0;by_cases hi:i<l.length
 ·rw[List.getD_eq_getElem?_getD,List.getElem?_map,List.getElem?_eq_getElem hi];exact hm _ (List.getElem_mem hi)
 ·rw[List.getD_eq_getElem?_getD,List.getElem?_map,List.getElem?_eq_none qf];exact Int.le_refl _
theorem Zp.parts {v:SV}{s:Zg}(hs:Zp h v s):0<=Zra s/\0<=Zoy s/\0<=GB s/\0<=Zqk s :=
 ⟨Ym fun i=>W9 _ _ (fun x hx=>((hs.mo x hx).u _ qj).1) i,Ym fun i=>(hs.p.word i).1,Ym fun i=>W9 _ _ (fun x hx=>(hs.oo x hx).a.1) i,Ym fun i=>W9 _ _ (fun x hx=>(hs.dd x hx).a.1) i⟩
theorem Zwy {s:Zg}(v:SV)(hs:Zp h v s)(few:Zy s)(hk:K (.bool (Wn s)) L h):Zb prog 65 [stV s v] L h K:=by
 obtain⟨p1,p2,p3,p4⟩:=hs.parts;have um:0<=s.most/\s.most<=18446744073709551615:=hs.ok.u _ qj;have ug:0<=s.gen/\s.gen<=18446744073709551615:=hs.ok.u _ qj;have ui:0<=s.aB/\s.aB<=18446744073709551615:=hs.ok.u _ qj;have ub:0<=s.aG/\s.aG<=18446744073709551615:=hs.ok.u _ qj;have ut:0<=s.an/\s.an<=18446744073709551615:=hs.ok.u _ qj;obtain⟨pa,pc,hp,_⟩:=hs.p.open;refine ed func65 ?_;refine xx ?_;refine ZY fun b1 nb1 zb1=>?_;(try simp only[ZS]at nb1);refine xx ?_;refine Zwq v hs few ?_;have hS:Zlo s=Zra s+Zoy s+GB s+Zqk s+s.an:=rfl;by_cases c1:JA s=true
 ·rw[Zjc,if_pos c1];simp only[JA,Bool.and_eq_true,decide_eq_true_eq]at c1;obtain⟨⟨⟨e1,e2⟩,e3⟩,e4⟩:=c1;refine xx ?_;refine ZY fun b2 nb2 zb2=>?_;(try simp only[ZS]at nb2);refine xx ?_;by_cases c2:4611686018427387904<s.most
  ·rw[show Wn s=false by simp only[Wn];rw[decide_eq_false (show ¬s.most<=4611686018427387904 from qf)];simp]at hk;refine xx ?_;exact ZO (ZO (ZP hk))
  ·refine xx ?_;refine ZY fun b3 nb3 zb3=>?_;(try simp only[ZS]at nb3);refine xx ?_;refine Ws (sz:=1) (n:=2) (cap:=2) [] ⟨Nat.le_refl _,qh⟩ rfl qh zb3 fun h2 le2 s2 f2=>?_;have q1:h2 b2=noC:=by rw[f2 _ nb3.1];exact zb2
   have q2:h2 b1=noC:=by rw[f2 _ nb3.2.1];exact zb1
   refine Zdx (zs:=[s.gen,s.aB]) s.most _ ⟨s2,fun z hz=>?_⟩ um.2 ?_
   ·simp only[List.mem_cons,List.not_mem_nil,or_false]at hz;rcases hz with rfl|rfl<;>assumption
   rw[Zxd];simp only[List.nil_append];by_cases c3:s.gen+s.aB<=s.most
   ·rw[decide_eq_true c3];refine xx ?_;refine Yay _ _ _ _ _ ⟨p1,e1⟩ ⟨p2,e2⟩ ⟨p3,e3⟩ ⟨p4,e4⟩ ut ?_;rw[<- hS];by_cases c4:Zlo s<=18446744073709551615
    ·rw[YR c4];refine xx ?_;refine WV _ _ ⟨qf,c4⟩ ub ?_;rw[UX];refine xx ?_;refine WV _ _ ug ui ?_;rw[YR (show s.gen+s.aB<=18446744073709551615 from qf)];refine xx ?_;refine ZY fun b4 nb4 zb4=>?_;(try simp only[ZS]at nb4);refine xx ?_;refine Ws (sz:=1) (n:=2) (cap:=2) [] ⟨Nat.le_refl _,qh⟩ rfl qh zb4 fun h3 le3 s3 f3=>?_;refine Zji (zs:=[Zkl (Zlo s+s.aG),0]) _ ⟨s3,fun z hz=>?_⟩ ?_
     ·simp only[List.mem_cons,List.not_mem_nil,or_false]at hz;rcases hz with rfl|rfl
      ·unfold Zkl;split<;>decide
      ·decide
     simp only[List.nil_append,List.all_cons,List.all_nil,Bool.and_true];by_cases c5:Zlo s+s.aG<=18446744073709551615
     ·have:Wn s=decide (Zlo s+s.aG=s.gen+s.aB):=by simp only[Wn,decide_eq_true c3,decide_eq_true (show s.most<=4611686018427387904 from qf),Bool.true_and]
      rw[this]at hk;simp only[Zkl,if_pos c5,decide_true];refine xx ?_;exact ZO (ZO (Wk (le2.trans le3) (ZP hk)))
     ·have:Wn s=false:=by simp only[Wn];rw[decide_eq_false (show ¬Zlo s+s.aG=s.gen+s.aB from qf)];simp
      rw[this]at hk;simp only[Zkl,if_neg c5];refine xx ?_;exact ZO (ZO (Wk (le2.trans le3) (ZP hk)))
    ·have:Wn s=false:=by simp only[Wn];rw[decide_eq_false (show ¬Zlo s+s.aG=s.gen+s.aB from qf)];simp
     rw[this]at hk;rw[Wy c4];refine xx ?_;exact ZO (ZO (Wk le2 (ZP hk)))
   ·have:Wn s=false:=by simp only[Wn];rw[decide_eq_false c3];simp
    rw[this]at hk;rw[decide_eq_false c3];refine xx ?_;exact ZO (ZO (Wk le2 (ZP hk)))
 ·have:Wn s=false:=by
   have hn:¬(Zra s<=18446744073709551615/\Zoy s<=18446744073709551615/\GB s<=18446744073709551615/\Zqk s<=18446744073709551615):=fun⟨a,b,c,d⟩=>c1 (by simp [JA,a,b,c,d]);simp only[Wn];by_cases a:s.gen+s.aB<=s.most
   ·by_cases b:s.most<=4611686018427387904
    ·rw[decide_eq_false (show ¬Zlo s+s.aG=s.gen+s.aB from qf)];simp
    ·simp [b]
   ·simp [a]
  rw[this]at hk;rw[Zjc,if_neg c1];refine xx ?_;refine ZY fun b2 nb2 zb2=>?_;(try simp only[ZS]at nb2);refine xx ?_;exact ZO (ZO (ZP hk))
end Go.X
