/- Lemmas and contracts. Conditions: as each says. -/
import Derived.Test.YtllhopbilpdpkaaGreatQ31
set_option linter.unusedVariables false
set_option linter.unusedSimpArgs false
set_option maxHeartbeats 12800000
set_option maxRecDepth 20000
namespace Go.X
open Go.RowKit Go.Proofs Go.Bl
variable {L:Own} {h:PH} {K:PK}
abbrev moB' (bo cap:Nat)(ql:List QM):Zp:=⟨bo,120,ql.flatMap Wk,cap⟩
abbrev mfB (b5:Nat)(done:Bool):Zp:=⟨b5,4,[.bool done],1⟩
theorem Zcv {ql:List QM}{k:Nat}(a b:Value)(m:Zl):(ql.set k (a,b,m)).map (fun x=>x.2.2)=(ql.map (fun x=>x.2.2)).set k m:=by rw[List.map_set]
theorem Zgw {ql:List QM}{k:Nat}{q:QM}{h:PH}(hm:WI h ql)(hq:Zs h q):WI h (ql.set k q):=fun x hx=>by
 rcases List.mem_or_eq_of_mem_set hx with hx|rfl
 ·exact hm x hx
 ·exact hq
theorem Zpo {ql:List QM}{k:Nat}(hk:k<ql.length)(st:Int):(ql.flatMap Wk).set (k*33+30) (.int .i64 st)=(ql.set k ((gr Z2 ql k).1,(gr Z2 ql k).2.1,{ (gr Z2 ql k).2.2 with state:=st })).flatMap Wk :=
 WK Yl Z2 ql (i:=k) (m:=30) hk (by decide) (by simp [Wk,GL])
theorem Ykh {ql:List QM}{k:Nat}(hk:k<ql.length)(due:Int):(ql.flatMap Wk).set (k*33+29) (.int .i64 due)=(ql.set k ((gr Z2 ql k).1,(gr Z2 ql k).2.1,{ (gr Z2 ql k).2.2 with due:=due })).flatMap Wk :=
 WK Yl Z2 ql (i:=k) (m:=29) hk (by decide) (by simp [Wk,GL])
theorem Zfj {h:PH}{q:QM}(hq:Zs h q){st due:Int}(hs:0≤st∧st≤100)(hd : -9223372036854775808≤due∧due≤9223372036854775807):Zs h (q.1,q.2.1,{ q.2.2 with state:=st,due:=due }) :=
 ⟨hq.y,hq.n,hq.ok.a,fun z hz=>by
  have hn:=hq.ok.n;simp only[List.forall_mem_cons]at hn;simp only[List.mem_cons,List.not_mem_nil,or_false]at hz
  rcases hz with rfl|rfl|rfl|rfl|rfl|rfl<;>omega,hq.ok.p⟩
theorem Zle {ql:List QM}{ms:List Zl}(hq:ql.map (fun x=>x.2.2)=ms){k:Nat}(hk:k<ms.length):(gr Z2 ql k).2.2=gr Z5 ms k:=by
 subst hq;have hk':k<ql.length:=by simpa using hk
 rw[Z9 hk',Z9 (by simpa using hk'),List.getElem_map]
theorem Yaf {ql:List QM}{bo cap b5 k:Nat}{done:Bool}(hkl:k<ql.length)(hl:ql.length≤1000)(hm:WI h ql)
  (hyes:(gr Z2 ql k).2.2.state=2→K (.int .i64 0) (moB' bo cap (ql.set k ((gr Z2 ql k).1,(gr Z2 ql k).2.1,Ztg (gr Z2 ql k).2.2 done))::mfB b5 done::L) h)
  (hno:¬(gr Z2 ql k).2.2.state=2→K (.int .i64 291) (moB' bo cap ql::mfB b5 done::L) h) :
  Zb Tryz.prog 320 [.pointer (some ⟨bo,k*33,none⟩),.pointer (some ⟨b5,0,none⟩)] (moB' bo cap ql::mfB b5 done::L) h K:=by
 have g30:∀(K:Value→Prop) (t:Zm K),Uy (ql.flatMap Wk) (k*33+30) K t=K (.int .i64 (gr Z2 ql k).2.2.state):=fun K t=>YH Yl Z2 ql hkl (by decide) rfl K t;have hk33:=WM (n:=ql.length) (w:=33) hkl (m:=32) (by decide);have hsum:(ql.map fun a=>(Wk a).length).sum=ql.length*33:=by rw[← List.length_flatMap,Z1 Yl]
 refine Ya Tryz.func320 rfl (rs:=[_]) rfl rfl ZX (by kernel_rfl) rfl rfl fun ap nd=>?_;have hbo:h bo=noC:=ap.1;have hb5:h b5=noC:=ap.2.1;have nb:bo≠b5:=Ne.symm nd.1.1;clear ap nd;simp -dsimp -implicitDefEqProofs (disch:=first|with_reducible assumption|omega) [go_sem,g30];by_cases c:(gr Z2 ql k).2.2.state=2
 ·have hy:=hyes c;have s1:=Zpo hkl 4;simp -dsimp -implicitDefEqProofs (disch:=first|with_reducible assumption|omega) [go_sem,g30];refine⟨by omega,?_⟩;rw[s1];have hkl2:k<(ql.set k ((gr Z2 ql k).1,(gr Z2 ql k).2.1,{ (gr Z2 ql k).2.2 with state:=4 })).length:=by rw[List.length_set];exact hkl
  cases done with
  | false =>
   refine xx ?_;exact ZP hy
  | true =>
   have s2:=Zpo hkl2 3;have e2:gr Z2 (ql.set k ((gr Z2 ql k).1,(gr Z2 ql k).2.1,{ (gr Z2 ql k).2.2 with state:=4 })) k=((gr Z2 ql k).1,(gr Z2 ql k).2.1,{ (gr Z2 ql k).2.2 with state:=4 }):=by rw[Z9 hkl2,List.getElem_set_self]
   rw[e2,List.set_set]at s2;refine xx ?_;refine⟨by rw[← List.map_set (f:=fun a=>(Wk a).length),← List.length_flatMap,Z1 Yl,List.length_set];omega,?_⟩;rw[s2];exact ZP hy
 ·have hn:=hno c;refine xx ?_;exact ZP hn
theorem Yfn {ql:List QM}{ms:List Zl}{b5:Nat}(v:Value)(hv:Zh Wk 33 h v ql)(hq:ql.map (fun x=>x.2.2)=ms)(hm:WI h ql)(hl:ql.length≤1000)(hb:∀m∈ms,m.yes.length≤1000∧m.no.length≤1000)(i:Int)(hi : -9223372036854775808≤i∧i≤9223372036854775807)(done:Bool)
  (hk:∀h' r ql',PH.le h h'→Zh Wk 33 h' r ql'→ql'.map (fun x=>x.2.2)=(Ybo ms i done).1→WI h' ql'→K (.tuple #[r,.int .i64 (Ybo ms i done).2]) L h') :
  Zb Tryz.prog 319 [v,.int .i64 i,.func (.func 320) #[] #[.pointer (some ⟨b5,0,none⟩)]] (mfB b5 done::L) h K:=by
 have hql:ql.length=ms.length:=by rw[← hq,List.length_map]
 have hv0:=hv;obtain⟨va,vc,rfl,_⟩:=hv.open;have bad:∀h' e,PH.le h h'→Ybo ms i done=([],e)→K (.tuple #[.slice none 0 0,.int .i64 e]) L h':=fun h' e le eq=>by
  have:=hk h' (.slice none 0 0) [] le (Zh.nil Yl h') (by rw[eq];rfl) (fun x hx=>by cases hx);rw[eq]at this;exact this
 refine Ya Tryz.func319 rfl (rs:=[_,_]) rfl rfl ZX (by kernel_rfl) rfl rfl fun ap nd=>?_;clear ap nd;refine xx ?_;refine JF _ _ _ ?_;rw[hql]at hv0 ⊢
 cases q1:wi i 0 ((ms.length:Int)-1) with
 | false =>
  have:=bad h 230 (PH.le_refl _) (by rw[Ybo,if_neg (fun c=>by rw[show wi i 0 ((ms.length:Int)-1)=true from wi_iff.2 (by omega)]at q1;cases q1)]);refine xx ?_;exact ZO (ZP this)
 | true =>
 have q1':=wi_iff.1 q1;obtain⟨k,rfl⟩:=Int.eq_ofNat_of_zero_le q1'.1;have hkl:k<ms.length:=by omega
 have ev:Ybo ms k done=if (gr Z5 ms k).state=2 then (ms.set k (Ztg (gr Z5 ms k) done),0) else ([],291):=by
  rw[Ybo,if_pos (by omega)];rfl
 refine xx ?_;refine Zb.apn (Zpz _ hv0 hq hm hl hb fun h5 o ql' le5 oko apo eq' mo' ap nd=>?_);have hql':ql'.length=ms.length:=by rw[← eq',List.length_map]
 obtain⟨bo,co,rfl⟩:∃bt cap,o=some (bt,cap):=by
  cases o with
  | none=>have:ms.length=0:=oko;omega
  | some p=>exact⟨_,_,rfl⟩
 have hbo:h5 bo=noC:=apo.2;clear ap nd;rw[Yh];simp only[ovs];refine xx ?_;have egr:=Zle eq' hkl;refine Zb.ap (Yaf (by omega) (by omega) mo' (fun c ap=>?_) (fun c ap=>?_))
 ·have hbo6:h5 bo=noC:=ap.1;clear ap;rw[egr]at c;rw[if_pos c]at ev;rw[egr];refine xx ?_;refine YR (e:=120) (sz:=33) (n:=ms.length) (o:=some (bo,co)) oko (by rw[Z1 Yl,List.length_set,hql']) (by omega) (L0:=[]) ⟨trivial,hbo6⟩ fun h7 le7 sl=>ZO (ZP ?_);have hq2:=Z9 (z:=Z2) (l:=ql') (i:=k) (by omega);have him:Zs h5 (gr Z2 ql' k):=mo' _ (by rw[hq2];exact List.getElem_mem _);have him2:Zs h5 ((gr Z2 ql' k).1,(gr Z2 ql' k).2.1,Ztg (gr Z5 ms k) done):=by
   rw[← egr];exact Zfj him (st:=if done then 3 else 4) (by cases done<;>decide) (him.ok.n _ (by simp))
  have:=hk h7 _ (ql'.set k ((gr Z2 ql' k).1,(gr Z2 ql' k).2.1,Ztg (gr Z5 ms k) done)) (le5.trans le7) (by have:=Zh.pub (f:=Wk) (w:=33) (l:=ql'.set k ((gr Z2 ql' k).1,(gr Z2 ql' k).2.1,Ztg (gr Z5 ms k) done)) (o:=some (bo,co)) Yl (by rw[List.length_set,hql'];exact sl);rwa [List.length_set,hql']at this) (by rw[Zcv,eq',ev]) (fun x hx=>(Zgw mo' him2 x hx).up le7);rw[ev]at this;exact this
 ·clear ap;rw[egr]at c;rw[if_neg c]at ev;have:=bad h5 291 le5 ev;refine xx ?_;exact ZO (ZO (ZP this))
theorem Znn {ql:List QM}{ms:List Zl}(v:Value)(hv:Zh Wk 33 h v ql)(hq:ql.map (fun x=>x.2.2)=ms)(hm:WI h ql)(hl:ql.length≤1000)(hb:∀m∈ms,m.yes.length≤1000∧m.no.length≤1000)(i:Int)(hi : -9223372036854775808≤i∧i≤9223372036854775807)(done:Bool)
  (hk:∀h' r ql',PH.le h h'→Zh Wk 33 h' r ql'→ql'.map (fun x=>x.2.2)=(Ybo ms i done).1→WI h' ql'→K (.tuple #[r,.int .i64 (Ybo ms i done).2]) L h') :
  Zb Tryz.prog 222 [v,.int .i64 i,.bool done] L h K:=by
 refine ZS Tryz.func222 rfl (rs:=[_,_]) rfl rfl ZX (by kernel_rfl) rfl rfl ?_;refine xx ?_;refine Z0 fun b5 nb5 zb5=>?_;(try simp only[ZT]at nb5);refine xx ?_;refine Yfn v hv hq hm hl hb i hi done fun h' r ql' le i1 i2 i3=>?_;have:=hk h' r ql' le i1 i2 i3;refine xx ?_;exact ZP this
theorem Sl.drop {h:PH}{a:Option Addr}{n c sz:Nat}{cs:List Value}(hs:Sl h (.slice a n c) n sz cs)(i:Nat)(hi:i≤n):Sl h (.slice (JP a c i sz) (n-i) (c-i)) (n-i) sz (cs.drop (i*sz)):=by
 obtain⟨h1,a',c',h2,h3,h4,h5,h6,h7⟩:=hs;injection h2 with e1 e2 e3
 subst e1;subst e3;refine⟨by rw[List.length_drop,h1,Nat.sub_mul],JP a c i sz,c-i,rfl,by omega,by omega,by omega,fun hn=>?_,fun m v hm=>?_⟩
 ·unfold JP at hn;split at hn
  ·omega
  ·cases a with
   | none=>have:=h6 rfl;omega
   | some q=>simp at hn
 ·rw[List.getElem?_drop]at hm;have hlt:=(List.getElem?_eq_some_iff.1 hm).1;have hne:¬c=i:=fun e=>by
   have:n=i:=by omega
   subst this;omega
  have:=h7 (i*sz+m) v hm;unfold JP;rw[if_neg hne]
  cases a with
  | none=>simp [Z8]at this
  | some q =>
   simp only[Z8,Option.map_some,Zoa]at this ⊢;exact this
end Go.X
