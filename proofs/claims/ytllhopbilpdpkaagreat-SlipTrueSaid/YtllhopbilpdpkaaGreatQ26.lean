/- Lemmas and contracts. Conditions: as each says. -/
import Derived.Test.YtllhopbilpdpkaaGreatQ25
set_option linter.unusedVariables false
set_option linter.unusedSimpArgs false
set_option maxHeartbeats 12800000
set_option maxRecDepth 20000
namespace Go.X
open Go.RowKit Go.Proofs Go.Bl
variable {L:Own} {h:PH} {K:PK}
abbrev moB' (bo cap:Nat)(ql:List QM):Zm:=⟨bo,120,ql.flatMap WE,cap⟩
abbrev mfB (b5:Nat)(done:Bool):Zm:=⟨b5,4,[.bool done],1⟩
theorem Zaj {ql:List QM}{k:Nat}(a b:Value)(m:Zn):(ql.set k (a,b,m)).map (fun x=>x.2.2)=(ql.map (fun x=>x.2.2)).set k m:=by rw[List.map_set]
theorem Zdg {ql:List QM}{k:Nat}{q:QM}{h:PH}(hm:WF h ql)(hq:Zu h q):WF h (ql.set k q):=fun x hx=>by
 rcases List.mem_or_eq_of_mem_set hx with hx|rfl
 ·exact hm x hx
 ·exact hq
theorem Zlx {ql:List QM}{k:Nat}(hk:k<ql.length)(st:Int):(ql.flatMap WE).set (k*33+30) (.int .i64 st)=(ql.set k ((gr Z6 ql k).1,(gr Z6 ql k).2.1,{ (gr Z6 ql k).2.2 with state:=st })).flatMap WE :=
 Yx Yh Z6 ql (i:=k) (m:=30) hk (by decide) (by simp [WE,Zbs])
theorem Yga {ql:List QM}{k:Nat}(hk:k<ql.length)(due:Int):(ql.flatMap WE).set (k*33+29) (.int .i64 due)=(ql.set k ((gr Z6 ql k).1,(gr Z6 ql k).2.1,{ (gr Z6 ql k).2.2 with due:=due })).flatMap WE :=
 Yx Yh Z6 ql (i:=k) (m:=29) hk (by decide) (by simp [WE,Zbs])
theorem Zdt {h:PH}{q:QM}(hq:Zu h q){st due:Int}(hs:0≤st∧st≤100)(hd : -9223372036854775808≤due∧due≤9223372036854775807):Zu h (q.1,q.2.1,{ q.2.2 with state:=st,due:=due }) :=
 ⟨hq.y,hq.n,hq.ok.a,fun z hz=>by
  have hn:=hq.ok.n;simp only[List.forall_mem_cons]at hn;simp only[List.mem_cons,List.not_mem_nil,or_false]at hz
  rcases hz with rfl|rfl|rfl|rfl|rfl|rfl<;>omega,hq.ok.p⟩
theorem Zjk {ql:List QM}{ms:List Zn}(hq:ql.map (fun x=>x.2.2)=ms){k:Nat}(hk:k<ms.length):(gr Z6 ql k).2.2=gr Yc ms k:=by
 subst hq;have hk':k<ql.length:=by simpa using hk
 rw[Z8 hk',Z8 (by simpa using hk'),List.getElem_map]
theorem Zrq {ql:List QM}{bo cap b5 k:Nat}{done:Bool}(hkl:k<ql.length)(hl:ql.length≤1000)(hm:WF h ql)
  (hyes:(gr Z6 ql k).2.2.state=2→K (.int .i64 0) (moB' bo cap (ql.set k ((gr Z6 ql k).1,(gr Z6 ql k).2.1,Zqv (gr Z6 ql k).2.2 done))::mfB b5 done::L) h)
  (hno:¬(gr Z6 ql k).2.2.state=2→K (.int .i64 291) (moB' bo cap ql::mfB b5 done::L) h) :
  Zc Tryz.prog 320 [.pointer (some ⟨bo,k*33,none⟩),.pointer (some ⟨b5,0,none⟩)] (moB' bo cap ql::mfB b5 done::L) h K:=by
 have g30:∀(K:Value→Prop) (t:Zk K),Wz (ql.flatMap WE) (k*33+30) K t=K (.int .i64 (gr Z6 ql k).2.2.state):=fun K t=>Z1 Yh Z6 ql hkl (by decide) rfl K t;have hk33:=Y5 (n:=ql.length) (w:=33) hkl (m:=32) (by decide);have hsum:(ql.map fun a=>(WE a).length).sum=ql.length*33:=by rw[← List.length_flatMap,Z0 Yh]
 refine Z3 Tryz.func320 rfl (rs:=[_]) rfl rfl ZW (by kernel_rfl) rfl rfl fun ap nd=>?_;have hbo:h bo=noC:=ap.1;have hb5:h b5=noC:=ap.2.1;have nb:bo≠b5:=Ne.symm nd.1.1;clear ap nd;simp -dsimp -implicitDefEqProofs (disch:=first|with_reducible assumption|omega) [go_sem,g30];by_cases c:(gr Z6 ql k).2.2.state=2
 ·have hy:=hyes c;have s1:=Zlx hkl 4;simp -dsimp -implicitDefEqProofs (disch:=first|with_reducible assumption|omega) [go_sem,g30];refine⟨by omega,?_⟩;rw[s1];have hkl2:k<(ql.set k ((gr Z6 ql k).1,(gr Z6 ql k).2.1,{ (gr Z6 ql k).2.2 with state:=4 })).length:=by rw[List.length_set];exact hkl
  cases done with
  | false =>
   refine xx ?_;exact ZO hy
  | true =>
   have s2:=Zlx hkl2 3;have e2:gr Z6 (ql.set k ((gr Z6 ql k).1,(gr Z6 ql k).2.1,{ (gr Z6 ql k).2.2 with state:=4 })) k=((gr Z6 ql k).1,(gr Z6 ql k).2.1,{ (gr Z6 ql k).2.2 with state:=4 }):=by rw[Z8 hkl2,List.getElem_set_self]
   rw[e2,List.set_set]at s2;refine xx ?_;refine⟨by rw[← List.map_set (f:=fun a=>(WE a).length),← List.length_flatMap,Z0 Yh,List.length_set];omega,?_⟩;rw[s2];exact ZO hy
 ·have hn:=hno c;refine xx ?_;exact ZO hn
theorem Yci {ql:List QM}{ms:List Zn}{b5:Nat}(v:Value)(hv:Zh WE 33 h v ql)(hq:ql.map (fun x=>x.2.2)=ms)(hm:WF h ql)(hl:ql.length≤1000)(hb:∀m∈ms,m.yes.length≤1000∧m.no.length≤1000)(i:Int)(hi : -9223372036854775808≤i∧i≤9223372036854775807)(done:Bool)
  (hk:∀h' r ql',PH.le h h'→Zh WE 33 h' r ql'→ql'.map (fun x=>x.2.2)=(Zyn ms i done).1→WF h' ql'→K (.tuple #[r,.int .i64 (Zyn ms i done).2]) L h') :
  Zc Tryz.prog 319 [v,.int .i64 i,.func (.func 320) #[] #[.pointer (some ⟨b5,0,none⟩)]] (mfB b5 done::L) h K:=by
 have hql:ql.length=ms.length:=by rw[← hq,List.length_map]
 have hv0:=hv;obtain⟨va,vc,rfl,_⟩:=hv.open;have bad:∀h' e,PH.le h h'→Zyn ms i done=([],e)→K (.tuple #[.slice none 0 0,.int .i64 e]) L h':=fun h' e le eq=>by
  have:=hk h' (.slice none 0 0) [] le (Zh.nil Yh h') (by rw[eq];rfl) (fun x hx=>by cases hx);rw[eq]at this;exact this
 refine Z3 Tryz.func319 rfl (rs:=[_,_]) rfl rfl ZW (by kernel_rfl) rfl rfl fun ap nd=>?_;clear ap nd;refine xx ?_;refine Jt _ _ _ ?_;rw[hql]at hv0 ⊢
 cases q1:wi i 0 ((ms.length:Int)-1) with
 | false =>
  have:=bad h 230 (PH.le_refl _) (by rw[Zyn,if_neg (fun c=>by rw[show wi i 0 ((ms.length:Int)-1)=true from wi_iff.2 (by omega)]at q1;cases q1)]);refine xx ?_;exact ZP (ZO this)
 | true =>
 have q1':=wi_iff.1 q1;obtain⟨k,rfl⟩:=Int.eq_ofNat_of_zero_le q1'.1;have hkl:k<ms.length:=by omega
 have ev:Zyn ms k done=if (gr Yc ms k).state=2 then (ms.set k (Zqv (gr Yc ms k) done),0) else ([],291):=by
  rw[Zyn,if_pos (by omega)];rfl
 refine xx ?_;refine Zc.apn (Zne _ hv0 hq hm hl hb fun h5 o ql' le5 oko apo eq' mo' ap nd=>?_);have hql':ql'.length=ms.length:=by rw[← eq',List.length_map]
 obtain⟨bo,co,rfl⟩:∃bt cap,o=some (bt,cap):=by
  cases o with
  | none=>have:ms.length=0:=oko;omega
  | some p=>exact⟨_,_,rfl⟩
 have hbo:h5 bo=noC:=apo.2;clear ap nd;rw[Ye];simp only[ovs];refine xx ?_;have egr:=Zjk eq' hkl;refine Zc.ap (Zrq (by omega) (by omega) mo' (fun c ap=>?_) (fun c ap=>?_))
 ·have hbo6:h5 bo=noC:=ap.1;clear ap;rw[egr]at c;rw[if_pos c]at ev;rw[egr];refine xx ?_;refine Wh (e:=120) (sz:=33) (n:=ms.length) (o:=some (bo,co)) oko (by rw[Z0 Yh,List.length_set,hql']) (by omega) (L0:=[]) ⟨trivial,hbo6⟩ fun h7 le7 sl=>ZP (ZO ?_);have hq2:=Z8 (z:=Z6) (l:=ql') (i:=k) (by omega);have him:Zu h5 (gr Z6 ql' k):=mo' _ (by rw[hq2];exact List.getElem_mem _);have him2:Zu h5 ((gr Z6 ql' k).1,(gr Z6 ql' k).2.1,Zqv (gr Yc ms k) done):=by
   rw[← egr];exact Zdt him (st:=if done then 3 else 4) (by cases done<;>decide) (him.ok.n _ (by simp))
  have:=hk h7 _ (ql'.set k ((gr Z6 ql' k).1,(gr Z6 ql' k).2.1,Zqv (gr Yc ms k) done)) (le5.trans le7) (by have:=Zh.pub (f:=WE) (w:=33) (l:=ql'.set k ((gr Z6 ql' k).1,(gr Z6 ql' k).2.1,Zqv (gr Yc ms k) done)) (o:=some (bo,co)) Yh (by rw[List.length_set,hql'];exact sl);rwa [List.length_set,hql']at this) (by rw[Zaj,eq',ev]) (fun x hx=>(Zdg mo' him2 x hx).up le7);rw[ev]at this;exact this
 ·clear ap;rw[egr]at c;rw[if_neg c]at ev;have:=bad h5 291 le5 ev;refine xx ?_;exact ZP (ZP (ZO this))
theorem Zju {ql:List QM}{ms:List Zn}(v:Value)(hv:Zh WE 33 h v ql)(hq:ql.map (fun x=>x.2.2)=ms)(hm:WF h ql)(hl:ql.length≤1000)(hb:∀m∈ms,m.yes.length≤1000∧m.no.length≤1000)(i:Int)(hi : -9223372036854775808≤i∧i≤9223372036854775807)(done:Bool)
  (hk:∀h' r ql',PH.le h h'→Zh WE 33 h' r ql'→ql'.map (fun x=>x.2.2)=(Zyn ms i done).1→WF h' ql'→K (.tuple #[r,.int .i64 (Zyn ms i done).2]) L h') :
  Zc Tryz.prog 222 [v,.int .i64 i,.bool done] L h K:=by
 refine ZS Tryz.func222 rfl (rs:=[_,_]) rfl rfl ZW (by kernel_rfl) rfl rfl ?_;refine xx ?_;refine Z2 fun b5 nb5 zb5=>?_;(try simp only[ZT]at nb5);refine xx ?_;refine Yci v hv hq hm hl hb i hi done fun h' r ql' le i1 i2 i3=>?_;have:=hk h' r ql' le i1 i2 i3;refine xx ?_;exact ZO this
theorem Sl.drop {h:PH}{a:Option Addr}{n c sz:Nat}{cs:List Value}(hs:Sl h (.slice a n c) n sz cs)(i:Nat)(hi:i≤n):Sl h (.slice (Ju a c i sz) (n-i) (c-i)) (n-i) sz (cs.drop (i*sz)):=by
 obtain⟨h1,a',c',h2,h3,h4,h5,h6,h7⟩:=hs;injection h2 with e1 e2 e3
 subst e1;subst e3;refine⟨by rw[List.length_drop,h1,Nat.sub_mul],Ju a c i sz,c-i,rfl,by omega,by omega,by omega,fun hn=>?_,fun m v hm=>?_⟩
 ·unfold Ju at hn;split at hn
  ·omega
  ·cases a with
   | none=>have:=h6 rfl;omega
   | some q=>simp at hn
 ·rw[List.getElem?_drop]at hm;have hlt:=(List.getElem?_eq_some_iff.1 hm).1;have hne:¬c=i:=fun e=>by
   have:n=i:=by omega
   subst this;omega
  have:=h7 (i*sz+m) v hm;unfold Ju;rw[if_neg hne]
  cases a with
  | none=>simp [Yd]at this
  | some q =>
   simp only[Yd,Option.map_some,Zmb]at this ⊢;exact this
end Go.X
