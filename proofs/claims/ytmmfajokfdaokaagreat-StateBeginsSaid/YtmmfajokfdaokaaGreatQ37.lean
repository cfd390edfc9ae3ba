/- Lemmas and contracts for a statement about the given program. Conditions: as each says. -/
import Derived.Test.YtmmfajokfdaokaaGreatQ35
import Derived.Test.YtmmfajokfdaokaaGreatQ36
set_option linter.unusedVariables false
set_option linter.unusedSimpArgs false
set_option maxHeartbeats 12800000
set_option maxRecDepth 20000
namespace Go.X
open Go.RowKit Go.Proofs Go.Bl
theorem upI_bal {f:Nat→MemD→MemD} (hf:∀ k m,(f k m).bal=m.bal) (l:List MemD):∀ k,k≤l.length→(upI f l k).map MemD.bal=l.map MemD.bal
 | 0,_=>rfl
 | k+1,hk=>by
  have e:(gr zeroM l k).bal=(l.map MemD.bal)[k]'(by rw [List.length_map]; omega):=by rw [List.getElem_map,gr_lt hk]
  rw [upI,List.map_set,upI_bal hf l k (by omega),hf,e,List.set_getElem_self]
theorem BeM.upI {f:Nat→MemD→MemD} (hf:∀ k m,MemOk m→MemOk (f k m)∧(f k m).owner=m.owner) {l:List MemD} {ps:List Int} (h:BeM l ps) {k:Nat} (hk:k≤l.length):BeM (upI f l k) ps:=by
 have:=upI_ok (f:=f) (l:=l) (fun m=>MemOk m∧0≤m.owner∧m.owner<ps.length) (fun k m hm=>⟨(hf k m hm.1).1,by rw [(hf k m hm.1).2]; exact hm.2⟩) (fun m hm=>⟨h.m m hm,h.o m hm⟩) k hk
 exact ⟨fun m hm=>(this m hm).1,fun m hm=>(this m hm).2,h.p⟩
theorem BeM.upN {f:MemD→MemD} (hf:∀ m,MemOk m→MemOk (f m)∧(f m).owner=m.owner) {l:List MemD} {ps:List Int} (h:BeM l ps) {k:Nat} (hk:k≤l.length):BeM (upN f l k) ps:=by
 have:=upN_ok (f:=f) (l:=l) (fun m=>MemOk m∧0≤m.owner∧m.owner<ps.length) (fun m hm=>⟨(hf m hm.1).1,by rw [(hf m hm.1).2]; exact hm.2⟩) (fun m hm=>⟨h.m m hm,h.o m hm⟩) k hk
 exact ⟨fun m hm=>(this m hm).1,fun m hm=>(this m hm).2,h.p⟩
theorem row_upI {f:Nat→MemD→MemD} (hf:∀ k m,(f k m).status=m.status) {l:List MemD} {q:List Int} {st:Int} (h:RowP l q st) {k:Nat} (hk:k≤l.length):RowP (upI f l k) q st :=
 row_eq h (upI_len f l k) fun j _=>by
  rw [upI_gr f l k hk j]
  split
  ·rw [hf]
  ·exact Iff.rfl
theorem stepP_b {calm pr ac:Int}:0≤(stepP calm pr ac).1∧(stepP calm pr ac).1≤1073741824:=by
 unfold stepP
 split
 ·decide
 ·simp only; omega
theorem wg_ti {s:StD} {D:Nat} (h:TkI s D):TkI (wgS s) D:=by
 have hl:(wgS s).members.length=s.members.length:=upI_len _ _ _
 obtain ⟨a1,a2,a3,a4,a5,a6,a7⟩:=h.ok.all
 have hc:=stepP_b (calm:=s.calm) (pr:=preS s) (ac:=actS s)
 have hb:(wgS s).members.map MemD.bal=s.members.map MemD.bal:=upI_bal (fun k m=>(wgF_f _ _ _ k m).2.2.1) _ _ (Nat.le_refl _)
 refine ⟨h.r,StOk.set h.ok h.ok.p a1 a2 a3 a4 a5 a6 (by omega),h.ep,BeM.upI (fun k m hm=>⟨wgF_ok h.ok.p h.r _ _ k hm,(wgF_f _ _ _ k m).1⟩) h.be (Nat.le_refl _),by rw [hl]; exact h.ml,h.pl,row_upI (fun k m=>(wgF_f _ _ _ k m).2.1) h.en (Nat.le_refl _),row_upI (fun k m=>(wgF_f _ _ _ k m).2.1) h.ex (Nat.le_refl _),h.dd,h.dn,fun d hd=>?_,h.on,h.mm,h.mn,?_,h.top⟩
 ·rw [hl]; exact h.oo d hd
 ·rw [hb]; exact h.mon
theorem mt_n {s:StD} {D:Nat} (h:TkI s D) {r:RepD} (ha:0≤r.act∧r.act≤18446744073709551615):0≤mtN s r∧s.gen+s.mint+mtN s r≤s.most:=by
 have:=h.top
 have hb:=bud_b h.ok.p ha
 unfold mtN mintP
 split
 ·omega
 ·rename_i c
  omega
theorem mtL_ok {s:StD} {D:Nat} (h:TkI s D) (k:Nat) (hk:k≤s.members.length):∀ x∈mtL s k,MemOk x:=fun x hx=>by
 obtain ⟨j,hj,rfl⟩:=List.mem_map.1 hx
 exact h.be.m _ (gr_mem (by have:=thI_lt hj; omega))
theorem mt_p {s:StD} {D:Nat} (h:TkI s D) {r:RepD} (ha:0≤r.act∧r.act≤18446744073709551615):(∀ i,0≤at0 (mtP s r) i∧at0 (mtP s r) i≤mtN s r)∧(mtP s r).length=(mtW s).length∧∀ k,k≤(mtP s r).length→0≤sumK (mtP s r) k∧sumK (mtP s r) k≤mtN s r:=by
 have hn:=(mt_n h ha).1
 have hm:=mtL_ok h s.members.length (Nat.le_refl _)
 refine ⟨fun i=>prizeL_at h.r hn hm i,by rw [mtP,prizeL_len,mtL,List.length_map]; rfl,fun k hk=>?_⟩
 rw [mtP,prizeL_len] at hk
 exact split_le hn (fun i=>at0_map (weightP s.par) _ (fun x hx=>(wt_b h.r (hm x hx)).1) i) (by rw [List.length_map]; exact hk)
theorem mtW_lt {s:StD}:∀ i∈mtW s,i<s.members.length:=fun i hi=>thI_lt hi
theorem mt_k {s:StD} {D:Nat} (h:TkI s D) {r:RepD} (ha:0≤r.act∧r.act≤18446744073709551615) {k:Nat} (hk:k≤(mtW s).length):MtOk (mtP s r) (s.members,s.purses) (mtX s r k) k :=
 mtK_ok h.ok.p h.be mtW_lt (fun i=>((mt_p h ha).1 i).1) k hk
theorem mtk_ti {s:StD} {D:Nat} (h:TkI s D) {r:RepD} (ha:0≤r.act∧r.act≤18446744073709551615) {k:Nat} (hk:k≤(mtW s).length):TkI (mtSk s r k) D:=by
 have hx:=mt_k h ha hk
 obtain ⟨hn,hn2⟩:=mt_n h ha
 obtain ⟨_,p2,p3⟩:=mt_p h ha
 have hp:=p3 k (by omega)
 obtain ⟨a1,a2,a3,a4,a5,a6,a7⟩:=h.ok.all
 obtain ⟨b1,b2,b3,b4,b5,b6⟩:=h.parts
 have hs:=h.sum
 have ht:=h.top
 have hm:=h.mon
 have l1:(mtSk s r k).members.length=s.members.length:=hx.l1
 have l2:(mtSk s r k).purses.length=s.purses.length:=hx.l2
 have e:tot (mtX s r k).2+tot ((mtX s r k).1.map MemD.bal)=tot s.purses+tot (s.members.map MemD.bal)+sumK (mtP s r) k:=hx.t
 refine ⟨h.r,StOk.set h.ok h.ok.p a1 a2 (by omega) a4 (by omega) a6 a7,h.ep,hx.b,by rw [l1]; exact h.ml,by rw [l2]; exact h.pl,row_eq h.en l1 (fun j _=>by rw [show (gr zeroM (mtSk s r k).members j).status=_ from (hx.s j).1]),row_eq h.ex l1 (fun j _=>by rw [show (gr zeroM (mtSk s r k).members j).status=_ from (hx.s j).1]),fun x hx=>by rw [l2]; exact h.dd x hx,h.dn,fun d hd=>by rw [l1,l2]; exact h.oo d hd,h.on,fun m hm=>by rw [l2]; exact h.mm m hm,h.mn,?_,?_⟩
 ·show tot (mtX s r k).2+tot ((mtX s r k).1.map MemD.bal)+dTot s.dues+tot (s.pool.map DepD.amt)+(s.treas+mtN s r-sumK (mtP s r) k)+s.burn=s.gen+(s.mint+mtN s r)
  omega
 ·show s.gen+(s.mint+mtN s r)≤s.most∧_
  exact ⟨by omega,ht.2⟩
theorem mt_ti {s:StD} {D:Nat} (h:TkI s D) {r:RepD} (ha:0≤r.act∧r.act≤18446744073709551615):TkI (mtS s r) D:=mtk_ti h ha (Nat.le_refl _)
theorem fn_b {s:StD} {D:Nat} (h:TkI s D) (r:RepD) {k:Nat} (hk:k≤s.members.length):0≤fnUs s r k∧fnUs s r k≤fnTs s r k∧fnTs s r k+tot ((upI (fnF s.par s.marks r.mode) s.members k).map MemD.bal)=tot (s.members.map MemD.bal):=fn_tot h.ok.p h.r _ _ h.be.m k hk
theorem fnk_ti {s:StD} {D:Nat} (h:TkI s D) (r:RepD) {k:Nat} (hk:k≤s.members.length):TkI (fnSk s r k) D:=by
 have hl:(fnSk s r k).members.length=s.members.length:=upI_len _ _ _
 obtain ⟨a1,a2,a3,a4,a5,a6,a7⟩:=h.ok.all
 obtain ⟨b1,b2,b3,b4,b5,b6⟩:=h.parts
 have hs:=h.sum
 obtain ⟨c1,c2,c3⟩:=fn_b h r hk
 have hbe:BeM (fnSk s r k).members s.purses:=BeM.upI (fun k m hm=>⟨fnF_ok h.ok.p h.r _ _ k hm,(fnF_f _ _ _ k m).1⟩) h.be hk
 have c4:=hbe.bal
 have c5:tot ((fnSk s r k).members.map MemD.bal)=tot ((upI (fnF s.par s.marks r.mode) s.members k).map MemD.bal):=rfl
 have hm:=h.mon
 refine ⟨h.r,StOk.set h.ok h.ok.p a1 a2 a3 a4 (by omega) a6 a7,h.ep,hbe,by rw [hl]; exact h.ml,h.pl,row_upI (fun k m=>(fnF_f _ _ _ k m).2) h.en hk,row_upI (fun k m=>(fnF_f _ _ _ k m).2) h.ex hk,h.dd,h.dn,fun d hd=>by rw [hl]; exact h.oo d hd,h.on,h.mm,h.mn,?_,h.top⟩
 show tot s.purses+tot ((fnSk s r k).members.map MemD.bal)+dTot s.dues+tot (s.pool.map DepD.amt)+(s.treas+fnTs s r k)+s.burn=s.gen+s.mint
 omega
theorem fn_ok {s:StD} {D:Nat} (h:TkI s D) {r:RepD} (hr:r.burned=0):burnOk (fnSk s r s.members.length) (fnR s r s.members.length).burned:=by
 obtain ⟨a1,a2,a3,a4,a5,a6,a7⟩:=h.ok.all
 obtain ⟨b1,b2,b3,b4,b5,b6⟩:=h.parts
 obtain ⟨c1,c2,c3⟩:=fn_b h r (Nat.le_refl _)
 have c4:0≤tot ((upI (fnF s.par s.marks r.mode) s.members s.members.length).map MemD.bal):=(fnk_ti h r (Nat.le_refl _)).be.bal
 have hs:=h.sum
 refine ⟨?_,?_⟩
 ·show r.burned+fnUs s r s.members.length≤s.treas+fnTs s r s.members.length
  omega
 ·show s.burn+(r.burned+fnUs s r s.members.length)≤_
  omega
theorem fn_ti {s:StD} {D:Nat} (h:TkI s D) {r:RepD} (hr:r.burned=0):TkI (fnS s r) D:=by
 have h1:=fnk_ti h r (Nat.le_refl _)
 obtain ⟨a1,a2,a3,a4,a5,a6,a7⟩:=h1.ok.all
 obtain ⟨c1,c2⟩:=fn_ok h hr
 have c0:0≤(fnR s r s.members.length).burned:=by
  have:=(fn_b h r (Nat.le_refl _)).1
  show 0≤r.burned+_
  omega
 have hm:=h1.mon
 refine ⟨h1.r,StOk.set h1.ok h1.ok.p a1 a2 a3 (by omega) (by omega) a6 a7,h1.ep,h1.be,h1.ml,h1.pl,h1.en,h1.ex,h1.dd,h1.dn,h1.oo,h1.on,h1.mm,h1.mn,?_,h1.top⟩
 show tot (fnSk s r s.members.length).purses+tot ((fnSk s r s.members.length).members.map MemD.bal)+dTot (fnSk s r s.members.length).dues+tot ((fnSk s r s.members.length).pool.map DepD.amt)+((fnSk s r s.members.length).treas-(fnR s r s.members.length).burned)+((fnSk s r s.members.length).burn+(fnR s r s.members.length).burned)=(fnSk s r s.members.length).gen+(fnSk s r s.members.length).mint
 omega
theorem owe_dd {pn:Nat} {l:List DueD} (hl:∀ x∈l,DueOk x∧0≤x.acct∧x.acct<pn) {d:DueD} (hd:DueOk d) (ha:0≤d.acct∧d.acct<pn) (hs:dTot l+d.amt≤4611686018427387904):∀ x∈oweL l d,DueOk x∧0≤x.acct∧x.acct<pn:=fun x hx=>by
 have h1:=(oweL_ok (n:=l.length) (M:=dTot l) ⟨fun x hx=>(hl x hx).1,Int.le_refl _,Nat.le_refl _⟩ hd hs).d x hx
 refine ⟨h1,?_⟩
 rcases mem_oweL hx with hx | rfl | ⟨h2,rfl⟩
 ·exact (hl x hx).2
 ·exact ha
 ·exact (hl _ (grD_mem h2)).2
theorem ejF_f (q:ParD) (m:MemD):(ejF q m).owner=m.owner:=by
 unfold ejF; split<;>rfl
structure EjOk (q:ParD) (cs:List MemD) (xs:List Int) (ds:List DueD) (t:Int) (pn k:Nat):Prop where
 d:∀ x∈duN q cs t ds k,DueOk x∧0≤x.acct∧x.acct<pn
 n:(duN q cs t ds k).length≤ds.length+k
 t:dTot (duN q cs t ds k)+tot ((upN (ejF q) cs k).map MemD.bal)=dTot ds+tot (cs.map MemD.bal)
 x:RowP (upN (ejF q) cs k) (exN q cs xs k) 3
theorem ej_ok {q:ParD} {cs:List MemD} {ps:List Int} (hb:BeM cs ps) {xs:List Int} (hx:RowP cs xs 3) {ds:List DueD} (hd:∀ x∈ds,DueOk x∧0≤x.acct∧x.acct<ps.length) {t:Int} (ht:0≤t∧t≤2147483647) (hT:dTot ds+tot (cs.map MemD.bal)≤4611686018427387904):∀ k,k≤cs.length→EjOk q cs xs ds t ps.length k
 | 0,_=>⟨hd,by simp [duN],rfl,hx⟩
 | k+1,hk=>by
  have ih:=ej_ok (q:=q) hb hx hd ht hT k (by omega)
  have hl:=upN_len (ejF q) cs k
  have hat:=upN_at (ejF q) cs (k:=k) (by omega)
  obtain ⟨mo,o1,o2⟩:=hb.at (i:=k) (by omega)
  have hbu:BeM (upN (ejF q) cs k) ps:=hb.upN (fun m hm=>⟨ejF_ok hm,ejF_f q m⟩) (by omega)
  have hbl:=hbu.bl (i:=k) (by omega)
  rw [hat] at hbl
  have h3:=ih.t
  have hbs:=bal_set (ms:=upN (ejF q) cs k) (i:=k) (by omega) (ejF q (gr zeroM cs k))
  rw [hat] at hbs
  by_cases c:ejP q (gr zeroM cs k)
  ·have e1:ejF q (gr zeroM cs k)=endM (gr zeroM cs k):=if_pos c
   have hdo:=dueOf_ok ht mo
   have hsum:dTot (duN q cs t ds k)+(dueOf t (gr zeroM cs k)).amt≤4611686018427387904:=by show _+(gr zeroM cs k).bal≤_; omega
   refine ⟨?_,?_,?_,?_⟩
   ·rw [duN,if_pos c]
    exact owe_dd ih.d hdo ⟨o1,o2⟩ hsum
   ·rw [duN,if_pos c]
    have:=oweL_len (duN q cs t ds k) (dueOf t (gr zeroM cs k))
    have:=ih.n
    omega
   ·rw [duN,if_pos c,oweL_tot,upN,hbs,e1]
    show _+(gr zeroM cs k).bal+(_+(0-_))=_
    omega
   ·rw [upN,exN,if_pos c,e1]
    exact row_flt ih.x (by omega) (by simp [endM])
  ·have e1:ejF q (gr zeroM cs k)=gr zeroM cs k:=if_neg c
   refine ⟨?_,?_,?_,?_⟩
   ·rw [duN,if_neg c]; exact ih.d
   ·rw [duN,if_neg c]; have:=ih.n; omega
   ·rw [duN,if_neg c,upN,hbs,e1]
    omega
   ·rw [upN,exN,if_neg c,e1]
    exact row_set ih.x (by omega) (by rw [hat])
theorem ejk_ti {s:StD} {D:Nat} (h:TkI s D) {t:Int} (ht:0≤t∧t≤2147483647) {k:Nat} (hk:k≤s.members.length):TkI (ejS s t k) (D+k):=by
 have hl:(ejS s t k).members.length=s.members.length:=upN_len _ _ _
 obtain ⟨b1,b2,b3,b4,b5,b6⟩:=h.parts
 have hs:=h.sum
 have hm:=h.mon
 have e:=ej_ok (q:=s.par) (t:=t) h.be h.ex h.dd ht (by omega) k hk
 have et:dTot (ejS s t k).dues+tot ((ejS s t k).members.map MemD.bal)=dTot s.dues+tot (s.members.map MemD.bal):=e.t
 refine ⟨h.r,⟨h.ok.p,h.ok.u,h.ok.n⟩,h.ep,h.be.upN (fun m hm=>⟨ejF_ok hm,ejF_f _ m⟩) hk,by rw [hl]; exact h.ml,h.pl,row_eq h.en hl fun j _=>?_,e.x,e.d,Nat.le_trans e.n (by have:=h.dn; omega),fun d hd=>by rw [hl]; exact h.oo d hd,h.on,h.mm,h.mn,?_,h.top⟩
 ·show (gr zeroM (upN (ejF s.par) s.members k) j).status=1↔_
  rw [upN_gr _ _ k hk j]
  split
  ·unfold ejF
   split
   ·rename_i c
    have:=c.1
    simp only [endM]
    constructor
    ·intro e; cases e
    ·intro e; omega
   ·exact Iff.rfl
  ·exact Iff.rfl
 ·show tot s.purses+tot ((ejS s t k).members.map MemD.bal)+dTot (ejS s t k).dues+tot (s.pool.map DepD.amt)+s.treas+s.burn=s.gen+s.mint
  omega
structure LvRow (W rest en:List Int) (pn:Nat) (x:List MemD×List DueD) (k:Nat):Prop where
 rx:RowP x.1 (W.drop k++rest) 3
 e:RowP x.1 en 1
 o:∀ y∈x.1,0≤y.owner∧y.owner<pn
 d:∀ y∈x.2,DueOk y∧0≤y.acct∧y.acct<pn
theorem lvK_row {t:Int} (ht:0≤t∧t≤2147483647) {W rest en:List Int} {pn:Nat} {x:List MemD×List DueD} (hm:∀ y∈x.1,MemOk y) (h:LvRow W rest en pn x 0) (hT:dTot x.2+tot (x.1.map MemD.bal)≤4611686018427387904):∀ k,k≤W.length→LvRow W rest en pn (lvK t W x k) k
 | 0,_=>h
 | k+1,hk=>by
  have ih:=lvK_row ht hm h hT k (by omega)
  have hd:W.drop k=at0 W k::W.drop (k+1):=by rw [List.drop_eq_getElem_cons (by omega),at0_lt (by omega)]
  have hW:∀ i∈W,0≤i∧i<x.1.length:=fun i hi=>by
   have:=row_in h.rx (z:=i) (by simp; exact .inl hi)
   omega
  have lv:=lvK_ok ht hm (fun y hy=>(h.d y hy).1) hW hT k (by omega)
  have hin:=row_in ih.rx (z:=at0 W k) (by rw [hd]; simp)
  obtain ⟨i,he⟩:=Int.eq_ofNat_of_zero_le hin.1
  rw [he] at hin hd
  rw [Int.toNat_natCast] at hin
  rw [lvK,he,Int.toNat_natCast]
  have hi:i<(lvK t W x k).1.length:=by omega
  have ix:=ih.rx
  rw [hd,List.cons_append] at ix
  have mo:=lv.m _ (gr_mem (z:=zeroM) hi)
  have oo:=ih.o _ (gr_mem (z:=zeroM) hi)
  have hbt:=at0_le_tot (bal_pos lv.m) i
  rw [at0_bal hi] at hbt
  have h3:=lv.t
  refine ⟨row_pop ix (by simp [endR]),row_set ih.e hi ?_,fun y hy=>?_,owe_dd ih.d (dueOf_ok ht mo) oo ?_⟩
  ·rw [hin.2.2]; simp [endR]
  ·rcases List.mem_or_eq_of_mem_set hy with hy | rfl
   ·exact ih.o y hy
   ·exact oo
  ·show dTot _+(gr zeroM (lvK t W x k).1 i).bal≤_
   omega
theorem tot_filter_two {α:Type} (f:α→Int) (q:α→Bool):∀ l:List α,tot ((l.filter q).map f)+tot ((l.filter fun x => !q x).map f)=tot (l.map f)
 | []=>rfl
 | x::l=>by
  have ih:=tot_filter_two f q l
  rw [List.filter_cons,List.filter_cons,List.map_cons,tot_cons']
  cases c:q x
  ·simp only [Bool.false_eq_true,if_false,Bool.not_false,if_true,List.map_cons,tot_cons']; omega
  ·simp only [if_true,Bool.not_true,Bool.false_eq_true,if_false,List.map_cons,tot_cons']; omega
theorem rip_two (l:List DueD) (e:Int):dTot (l.filter (ripB e true))+dTot (l.filter (ripB e false))=dTot l:=by
 have h1:=tot_filter_two DueD.amt (ripB e true) l
 have h2:(fun x => !ripB e true x)=ripB e false:=by
  funext x
  unfold ripB
  cases decide (x.at'≤e)<;>rfl
 rw [h2] at h1
 exact h1
theorem lv_w {s:StD} {D:Nat} (h:TkI s D):(lvW s).length≤64∧(lvW s).length≤s.exit.length∧∀ i∈lvW s,0≤i∧i<s.members.length:=by
 have hp:=parR_streak h.r
 refine ⟨?_,?_,fun i hi=>?_⟩
 ·rw [lvW,List.length_take]; omega
 ·rw [lvW,List.length_take]; omega
 ·have:=row_in h.ex (List.mem_of_mem_take hi)
  omega
theorem lv_ok {s:StD} {D:Nat} (h:TkI s D) {t:Int} (ht:0≤t∧t≤2147483647) {k:Nat} (hk:k≤(lvW s).length):LvOk (s.members,s.dues) (lvK t (lvW s) (s.members,s.dues) k) k∧LvRow (lvW s) (s.exit.drop s.par.churn.toNat) s.entry s.purses.length (lvK t (lvW s) (s.members,s.dues) k) k:=by
 obtain ⟨b1,b2,b3,b4,b5,b6⟩:=h.parts
 have hs:=h.sum
 exact ⟨lvK_ok (x:=(s.members,s.dues)) ht h.be.m (fun y hy=>(h.dd y hy).1) (lv_w h).2.2 (by show dTot s.dues+tot (s.members.map MemD.bal)≤_; omega) k hk,
  lvK_row (x:=(s.members,s.dues)) ht h.be.m ⟨by rw [List.drop_zero,lvW,List.take_append_drop]; exact h.ex,h.en,h.be.o,h.dd⟩ (by show dTot s.dues+tot (s.members.map MemD.bal)≤_; omega) k hk⟩
theorem lv_d {s:StD} {D:Nat} (h:TkI s D) {t:Int} (ht:0≤t∧t≤2147483647):∀ x∈lvD s t,0≤x.acct∧x.acct<s.purses.length∧0≤x.amt:=fun x hx=>by
 have:=(lv_ok h ht (Nat.le_refl _)).2.d x (List.mem_filter.1 hx).1
 exact ⟨this.2.1,this.2.2,this.1.a.1⟩
theorem lv_ti {s:StD} {D:Nat} (h:TkI s D) {t:Int} (ht:0≤t∧t≤2147483647):TkI (lvS s t) (D+64):=by
 obtain ⟨l1,l2⟩:=lv_ok h ht (Nat.le_refl _)
 obtain ⟨b1,b2,b3,b4,b5,b6⟩:=h.parts
 have hs:=h.sum
 have hm:=h.mon
 have hw:=(lv_w h).1
 have hl:(lvS s t).members.length=s.members.length:=l1.l1
 obtain ⟨d1,d2,d3⟩:=dpK_ok h.be.p (lv_d h ht) (lvD s t).length (Nat.le_refl _)
 have hp:(lvS s t).purses.length=s.purses.length:=d1
 have hx:=l2.rx
 rw [List.drop_length,List.nil_append] at hx
 have et:=l1.t
 have e2:=rip_two (lvX s t).2 s.ep
 have e3:sumK ((lvD s t).map DueD.amt) (lvD s t).length=dTot (lvD s t):=by rw [dTot,tot,List.length_map]
 rw [e3] at d3
 refine ⟨h.r,⟨h.ok.p,h.ok.u,h.ok.n⟩,h.ep,⟨l1.m,fun x hx=>by rw [hp]; exact l2.o x hx,d2⟩,by rw [hl]; exact h.ml,by rw [hp]; exact h.pl,l2.e,hx,fun x hx=>by rw [hp]; exact l2.d x (List.mem_filter.1 hx).1,?_,fun d hd=>by rw [hl,hp]; exact h.oo d hd,h.on,fun m hm=>by rw [hp]; exact h.mm m hm,h.mn,?_,h.top⟩
 ·have h1:=l1.n
  have h2:((lvX s t).2.filter (ripB s.ep false)).length≤(lvX s t).2.length:=List.length_filter_le _ _
  have h3:=h.dn
  show ((lvX s t).2.filter (ripB s.ep false)).length≤_
  have h4:(lvX s t).2.length≤s.dues.length+(lvW s).length:=h1
  omega
 ·show tot (dpK (lvD s t) s.purses (lvD s t).length)+tot ((lvX s t).1.map MemD.bal)+dTot ((lvX s t).2.filter (ripB s.ep false))+tot (s.pool.map DepD.amt)+s.treas+s.burn=s.gen+s.mint
  have e4:dTot (lvX s t).2+tot ((lvX s t).1.map MemD.bal)=dTot s.dues+tot (s.members.map MemD.bal):=et
  have e5:dTot (lvD s t)=dTot ((lvX s t).2.filter (ripB s.ep true)):=rfl
  omega
theorem cr_ok {s:StD} {D:Nat} (h:TkI s D) {k:Nat} (hk:k≤s.pool.length):CrOk s.exit (crK s.par s.pool ⟨s.members,s.purses,s.entry⟩ k) s.purses.length (tot s.purses+tot (s.members.map MemD.bal)+sumK (s.pool.map DepD.amt) k)∧s.members.length≤(crK s.par s.pool ⟨s.members,s.purses,s.entry⟩ k).ms.length :=
 crK_ok (x:=⟨s.members,s.purses,s.entry⟩) h.ok.p (show s.purses.length≤9223372036854775807 by have:=h.pl; omega) ⟨h.be,h.ml,rfl,rfl,h.en,h.ex⟩ (fun d hd=>⟨(h.oo d hd).1.a.1,(h.oo d hd).2⟩) k hk
theorem en_x {s:StD} {D:Nat} (h:TkI s D):CrOk s.exit (enX s) s.purses.length (tot s.purses+tot (s.members.map MemD.bal)+tot (s.pool.map DepD.amt))∧s.members.length≤(enX s).ms.length:=by
 have:=cr_ok h (Nat.le_refl s.pool.length)
 have e:sumK (s.pool.map DepD.amt) s.pool.length=tot (s.pool.map DepD.amt):=by rw [tot,List.length_map]
 rw [e] at this
 exact this
theorem st_ok {s:StD} {D:Nat} (h:TkI s D) (r:RepD) {t:Int} (ht:0≤t∧t≤2147483647) {k:Nat} (hk:k≤(enW s).length) :
  StOkX (enW s) ((enX s).en.drop s.par.churn.toNat) ⟨(enX s).ms,s.dues,s.exit,r.out,r.started⟩ (stK s.par t (enW s) ⟨(enX s).ms,s.dues,s.exit,r.out,r.started⟩ k) s.purses.length k:=by
 obtain ⟨b1,b2,b3,b4,b5,b6⟩:=h.parts
 have hs:=h.sum
 obtain ⟨c1,c2⟩:=en_x h
 have c3:=c1.t
 have c4:=c1.b.pur
 have hob:=c1.b.o
 rw [c1.l2] at hob
 exact stK_ok h.ok.p h.r ht (x:=⟨(enX s).ms,s.dues,s.exit,r.out,r.started⟩) ⟨rfl,c1.b.m,hob,fun x hx=>(h.dd x hx).1,Nat.le_refl _,rfl,by rw [List.drop_zero,enW,List.take_append_drop]; exact c1.e,c1.x,Nat.le_refl _,Nat.le_refl _⟩ (by show dTot s.dues+tot ((enX s).ms.map MemD.bal)≤_; omega) k hk
theorem en_w {s:StD} {D:Nat} (h:TkI s D):(enW s).length≤64∧(enX s).en.length≤128:=by
 have hp:=parR_streak h.r
 have h1:=(en_x h).1
 have:=row_len h1.e
 have:=h1.l1
 refine ⟨?_,by omega⟩
 rw [enW,List.length_take]; omega
theorem st_acct {p:ParD} {t:Int} {pn:Nat} (ht:0≤t∧t≤2147483647) (W:List Int) {rest:List Int} {x:StX} (hx:∀ y∈x.ds,DueOk y∧0≤y.acct∧y.acct<pn) (H:∀ k,k≤W.length→StOkX W rest x (stK p t W x k) pn k) (hT:dTot x.ds+tot (x.ms.map MemD.bal)≤4611686018427387904):∀ k,k≤W.length→∀ y∈(stK p t W x k).ds,DueOk y∧0≤y.acct∧y.acct<pn
 | 0,_=>hx
 | k+1,hk=>by
  have ih:=st_acct ht W hx H hT k (by omega)
  have h1:=H k (by omega)
  have hd:W.drop k=at0 W k::W.drop (k+1):=by rw [List.drop_eq_getElem_cons (by omega),at0_lt (by omega)]
  have hin:=row_in h1.e (z:=at0 W k) (by rw [hd]; simp)
  have hi:(at0 W k).toNat<(stK p t W x k).ms.length:=by omega
  have mo:=h1.m _ (gr_mem (z:=zeroM) hi)
  have oo:=h1.o _ (gr_mem (z:=zeroM) hi)
  have hbt:=at0_le_tot (bal_pos h1.m) (at0 W k).toNat
  rw [at0_bal hi] at hbt
  have h3:=h1.t
  rw [stK,stStep]
  split
  ·exact ih
  ·exact owe_dd ih (dueOf_ok ht mo) oo (by show dTot _+(gr zeroM (stK p t W x k).ms (at0 W k).toNat).bal≤_; omega)
theorem en_ti {s:StD} {D:Nat} (h:TkI s D) (r:RepD) {t:Int} (ht:0≤t∧t≤2147483647):TkI (enS s r t) (D+64):=by
 unfold enS
 by_cases c:r.quo=true
 ·rw [if_pos c]
  obtain ⟨b1,b2,b3,b4,b5,b6⟩:=h.parts
  have hs:=h.sum
  have hm:=h.mon
  obtain ⟨c1,c2⟩:=en_x h
  have c3:=c1.t
  have c4:=c1.b.pur
  have hw:=(en_w h).1
  have h1:=st_ok h r ht (Nat.le_refl (enW s).length)
  have h2:=st_acct (p:=s.par) ht (enW s) (x:=⟨(enX s).ms,s.dues,s.exit,r.out,r.started⟩) h.dd (fun k hk=>st_ok h r ht hk) (by show dTot s.dues+tot ((enX s).ms.map MemD.bal)≤_; omega) _ (Nat.le_refl _)
  have hl:(enY s r t).ms.length=(enX s).ms.length:=h1.l1
  have he:=h1.e
  rw [List.drop_length,List.nil_append] at he
  have et:dTot (enY s r t).ds+tot ((enY s r t).ms.map MemD.bal)=dTot s.dues+tot ((enX s).ms.map MemD.bal):=h1.t
  have hp:=c1.l2
  have hn:(enY s r t).ds.length≤s.dues.length+(enW s).length:=h1.n
  have hd:=h.dn
  refine ⟨h.r,⟨h.ok.p,h.ok.u,h.ok.n⟩,h.ep,⟨h1.m,fun x hx=>by simp only; rw [hp]; exact h1.o x hx,c1.b.p⟩,by simp only; rw [hl]; exact c1.l1,by simp only; rw [hp]; exact h.pl,he,h1.rx,fun x hx=>by simp only; rw [hp]; exact h2 x hx,by simp only; omega,(fun d hd=>by cases hd),by simp,fun m hm=>by simp only; rw [hp]; exact h.mm m hm,h.mn,?_,h.top⟩
  simp only [List.map_nil,tot_nil]
  omega
 ·rw [if_neg c]
  exact ⟨h.r,h.ok,h.ep,h.be,h.ml,h.pl,h.en,h.ex,h.dd,Nat.le_trans h.dn (by omega),h.oo,h.on,h.mm,h.mn,h.mon,h.top⟩
theorem parR_enact {p:ParD} (h:parR p=true):0≤p.enact:=by
 simp only [parR,Bool.and_eq_true] at h
 have h2:=h.1.2
 simp only [othersB,List.all_cons,List.all_nil,id,Bool.and_eq_true,wi_iff,decide_eq_true_eq,and_true] at h2
 omega
theorem mo_0 {s:StD} {D:Nat} (h:TkI s D) (r:RepD):MoOk (moW s r) ⟨s.par,s.treas,s.purses,s.emer,moL s,r.done⟩ ⟨s.par,s.treas,s.purses,s.emer,moL s,r.done⟩ 0:=by
 refine ⟨h.r,h.ok.p,h.parts.2.2.2.2.1,rfl,h.be.p,rfl,rfl,fun m hm=>?_,fun j _ hj=>?_,Nat.le_refl _⟩
 ·obtain ⟨x,hx,rfl⟩:=List.mem_map.1 hm
  exact closeM_ok (parR_enact h.r) h.ep.1 (h.mm x hx)
 ·exact ripeI_state (by rw [← at0_lt hj]; exact List.getElem_mem hj)
theorem moW_in {s:StD} (r:RepD):(moW s r).Nodup∧∀ z∈moW s r,0≤z∧z<(moL s).length:=⟨ripeI_nodup _ _ _ _,fun z hz=>ripeI_mem hz⟩
theorem mo_k {s:StD} {D:Nat} (h:TkI s D) (r:RepD) {k:Nat} (hk:k≤(moW s r).length):MoOk (moW s r) ⟨s.par,s.treas,s.purses,s.emer,moL s,r.done⟩ (moX s r k) k :=
 moK_ok (mo_0 h r) (moW_in r).1 (moW_in r).2 k hk
theorem mok_ti {s:StD} {D:Nat} (h:TkI s D) (r:RepD) {k:Nat} (hk:k≤(moW s r).length):TkI (moSk s r k) D:=by
 have hx:=mo_k h r hk
 obtain ⟨a1,a2,a3,a4,a5,a6,a7⟩:=h.ok.all
 obtain ⟨b1,b2,b3,b4,b5,b6⟩:=h.parts
 have hs:=h.sum
 have hm:=h.mon
 have et:tot (moX s r k).ps+(moX s r k).tr=tot s.purses+s.treas:=hx.t
 have hp0:=hx.p
 have hpp:=tot_nonneg hx.p
 have htr:=hx.tr
 have hp:(moSk s r k).purses.length=s.purses.length:=hx.l2
 have hn:(moX s r k).mo.length=s.motions.length:=by
  have:=hx.n
  rw [this]
  exact List.length_map _
 refine ⟨hx.r,StOk.set h.ok hx.ok a1 a2 a3 a4 (by omega) a6 a7,h.ep,⟨h.be.m,fun x hx=>by rw [hp]; exact h.be.o x hx,hx.p⟩,h.ml,by rw [hp]; exact h.pl,h.en,h.ex,fun x hx=>by rw [hp]; exact h.dd x hx,h.dn,fun d hd=>by rw [hp]; exact h.oo d hd,h.on,fun m hm=>by rw [hp]; exact hx.m m hm,by show (moX s r k).mo.length≤32; rw [hn]; exact h.mn,?_,h.top⟩
 show tot (moX s r k).ps+tot (s.members.map MemD.bal)+dTot s.dues+tot (s.pool.map DepD.amt)+(moX s r k).tr+s.burn=s.gen+s.mint
 omega
theorem ajk_ti {s:StD} {D:Nat} (h:TkI s D) {k:Nat} (hk:k≤s.members.length):TkI (ajSk s k) D:=by
 obtain ⟨b1,b2,b3,b4,b5,b6⟩:=h.parts
 have hs:=h.sum
 have hm:=h.mon
 have hb:BeOk s.members s.purses:=h.be.ok (by omega)
 have h1:=clN_ok (q:=s.par) h.ok.p (x:=(s.members,s.purses)) hb k hk
 have h2:=clN_len s.par (s.members,s.purses) k
 have h3:=clN_tot (q:=s.par) h.ok.p (x:=(s.members,s.purses)) hb k hk
 have h4:=clN_up s.par (s.members,s.purses) k hk
 have l1:(ajSk s k).members.length=s.members.length:=h2.1
 have l2:(ajSk s k).purses.length=s.purses.length:=h2.2
 have hst:∀ j,(gr zeroM (ajSk s k).members j).status=(gr zeroM s.members j).status:=fun j=>by
  show (gr zeroM (clN s.par (s.members,s.purses) k).1 j).status=_
  rw [h4,upN_gr _ _ k hk j]
  split
  ·rfl
  ·rfl
 refine ⟨h.r,⟨h.ok.p,h.ok.u,h.ok.n⟩,h.ep,⟨h1.m,h1.o,h1.p⟩,by rw [l1]; exact h.ml,by rw [l2]; exact h.pl,row_eq h.en l1 (fun j _=>by rw [hst]),row_eq h.ex l1 (fun j _=>by rw [hst]),fun x hx=>by rw [l2]; exact h.dd x hx,h.dn,fun d hd=>by rw [l1,l2]; exact h.oo d hd,h.on,fun m hm=>by rw [l2]; exact h.mm m hm,h.mn,?_,h.top⟩
 have e:tot (ajSk s k).purses+tot ((ajSk s k).members.map MemD.bal)=tot s.purses+tot (s.members.map MemD.bal):=h3
 show tot (ajSk s k).purses+tot ((ajSk s k).members.map MemD.bal)+dTot s.dues+tot (s.pool.map DepD.amt)+s.treas+s.burn=s.gen+s.mint
 omega
structure MI (p:ParD) (m:MemD):Prop where
 b:0≤m.bal∧m.bal≤p.cap
 e:0≤m.eff∧m.eff≤1099511627776
 sc:0≤m.score∧m.score≤p.scoreCap
 st:0≤m.streak∧m.streak≤p.streak
 ow:0≤m.owner∧m.owner<64
 s:(m.status=2∨m.status=3)∨(m.status=1∧1≤m.bal∧m.eff=0)∨((m.status=4∨m.status=5)∧m.bal=0∧m.eff=0)
abbrev MF (p:ParD) (m:MemD):Prop:=cntM m→p.floor<m.bal
theorem setPm {P:MemD→Prop} {l:List MemD} (h:∀ x∈l,P x) {i:Nat} {m:MemD} (hf:i<l.length→P m):∀ x∈l.set i m,P x:=fun x hx=>by
 by_cases c:i<l.length
 ·rcases List.mem_or_eq_of_mem_set hx with hx | rfl
  ·exact h x hx
  ·exact hf c
 ·rw [List.set_eq_of_length_le (by omega)] at hx
  exact h x hx
theorem grP {P:MemD→Prop} {l:List MemD} (h:∀ x∈l,P x) {i:Nat} (hi:i<l.length):P (gr zeroM l i):=h _ (gr_mem hi)
theorem parR_all {p:ParD} (hr:parR p=true):stakesB p=true∧scoresB p=true:=by
 simp only [parR,Bool.and_eq_true] at hr
 exact ⟨hr.1.1.1,hr.1.1.2⟩
theorem mi_of {p:ParD} (hr:parR p=true) {m:MemD} (mo:MemOk m) (hm:mfitsB p m=true):MI p m∧MF p m:=by
 obtain ⟨h1,h2,h3,h4⟩:=mfits_facts hm
 obtain ⟨s1,s2⟩:=parR_all hr
 have f1:=stakesB_facts s1
 have f2:=scoresB_facts s2
 have f3:=parR_streak hr
 have u1:=mo.u m.bal (by simp)
 have u2:=mo.u m.eff (by simp)
 have u3:=mo.u m.score (by simp)
 have hc:=shape_cap hr h4
 unfold shapeB at h4
 by_cases c1:m.status=2∨m.status=3
 ·rw [if_pos c1] at h4
  simp only [Bool.and_eq_true,decide_eq_true_eq,gfitsP] at h4
  exact ⟨⟨⟨u1.1,hc⟩,by omega,by omega,by omega,h1,.inl c1⟩,fun _=>by omega⟩
 ·rw [if_neg c1] at h4
  refine ⟨?_,fun c=>absurd c c1⟩
  by_cases c2:m.status=1
  ·rw [if_pos c2] at h4
   simp only [Bool.and_eq_true,decide_eq_true_eq] at h4
   exact ⟨⟨u1.1,hc⟩,by omega,by omega,by omega,h1,.inr (.inl ⟨c2,h4.1.1,h4.2⟩)⟩
  ·rw [if_neg c2] at h4
   by_cases c3:m.status=4∨m.status=5
   ·rw [if_pos c3] at h4
    simp only [Bool.and_eq_true,decide_eq_true_eq] at h4
    exact ⟨⟨u1.1,hc⟩,by omega,by omega,by omega,h1,.inr (.inr ⟨c3,h4.1,h4.2⟩)⟩
   ·rw [if_neg c3] at h4; cases h4
theorem wg_mi {p:ParD} (hr:parR p=true) (ok:ParOk p) (ks:List Int) (mode:Int) (k:Nat) {m:MemD} (h:MI p m):MI p (wgF p ks mode k m):=by
 obtain ⟨s1,s2⟩:=parR_all hr
 have f2:=scoresB_facts s2
 have f3:=parR_streak hr
 have h1:=h.sc
 have h2:=h.st
 have o1:=ok.w p.recover (by simp [wides])
 unfold wgF
 split
 ·unfold afterM
  split
  ·refine ⟨h.b,h.e,?_,?_,h.ow,h.s⟩
   ·show 0≤fallP m.score p.recover∧fallP m.score p.recover≤_
    unfold fallP
    split<;>omega
   ·show 0≤(if max m.streak 0<p.streak then max m.streak 0+1 else p.streak)∧(if max m.streak 0<p.streak then max m.streak 0+1 else p.streak)≤p.streak
    by_cases c:max m.streak 0<p.streak
    ·rw [if_pos c]; omega
    ·rw [if_neg c]; omega
  ·refine ⟨h.b,h.e,?_,?_,h.ow,h.s⟩
   ·show 0≤(if mode=3 then riseP m.score p.bias p.scoreCap else if mode=4 then riseP m.score p.biasEm p.scoreCap else m.score)∧(if mode=3 then riseP m.score p.bias p.scoreCap else if mode=4 then riseP m.score p.biasEm p.scoreCap else m.score)≤p.scoreCap
    unfold riseP
    by_cases c:mode=3
    ·rw [if_pos c]; omega
    ·rw [if_neg c]
     by_cases c2:mode=4
     ·rw [if_pos c2]; omega
     ·rw [if_neg c2]; omega
   ·show (0:Int)≤0∧(0:Int)≤p.streak
    omega
 ·exact h
theorem pay_mi {p:ParD} {m:MemD} (h:MI p m) {n:Int} (hn:0≤n) (hc:cntM m):MI p (payM p m n).1:=by
 have h1:=h.b
 refine ⟨?_,h.e,h.sc,h.st,h.ow,.inl hc⟩
 show 0≤m.bal+min n (fallP p.cap m.bal)∧m.bal+min n (fallP p.cap m.bal)≤p.cap
 unfold fallP
 split<;>omega
theorem fine_mi {p:ParD} (ok:ParOk p) (hr:parR p=true) (ks:List Int) (mode:Int) (k:Nat) {m:MemD} (mo:MemOk m) (h:MI p m):MI p (fnF p ks mode k m):=by
 have h1:=h.b
 have h2:=fine_b ok hr mo mode
 unfold fnF
 split
 ·rename_i c
  refine ⟨?_,h.e,h.sc,h.st,h.ow,.inl c.1⟩
  show 0≤m.bal-fineP p m mode∧m.bal-fineP p m mode≤p.cap
  omega
 ·exact h
theorem ended_mi {p:ParD} {m:MemD} (hr:parR p=true) (h:MI p m) {st:Int} (hs:st=4∨st=5):MI p (endR m st)∧MF p (endR m st):=by
 have h1:=h.b
 have h2:=h.st
 refine ⟨⟨?_,by simp [endR],h.sc,?_,h.ow,.inr (.inr ⟨hs,rfl,rfl⟩)⟩,fun c=>?_⟩
 ·show (0:Int)≤0∧(0:Int)≤p.cap
  omega
 ·show (0:Int)≤0∧(0:Int)≤p.streak
  omega
 ·simp only [cntM,endR] at c
  omega
theorem ej_mi {p:ParD} (hr:parR p=true) {m:MemD} (h:MI p m):MI p (ejF p m)∧MF p (ejF p m):=by
 unfold ejF
 split
 ·exact ended_mi hr h (st:=4) (.inl rfl)
 ·rename_i c
  exact ⟨h,fun hc=>by
   have:¬ m.bal≤p.floor:=fun x=>c ⟨hc,x⟩
   omega⟩
theorem cred_mi {p:ParD} (hr:parR p=true) {m:MemD} (h:MI p m) (hf:MF p m) {a:Int} (ha:0≤a):MI p (credM p m a)∧MF p (credM p m a):=by
 have h1:=h.b
 have h2:=h.s
 have ht:0≤crTake p m a∧m.bal+crTake p m a≤p.cap:=by
  unfold crTake fallP
  split<;>omega
 unfold credM
 split
 ·rename_i c
  exact ⟨⟨by simp only; omega,by simp,h.sc,h.st,h.ow,.inr (.inl ⟨rfl,by simp only; omega,rfl⟩)⟩,fun x=>by simp [cntM] at x⟩
 ·rename_i c
  refine ⟨⟨by simp only; omega,h.e,h.sc,h.st,h.ow,?_⟩,fun x=>?_⟩
  ·rcases h2 with h2 | h2 | h2
   ·exact .inl h2
   ·exact .inr (.inl ⟨h2.1,by simp only; omega,h2.2.2⟩)
   ·refine .inr (.inr ⟨h2.1,?_,h2.2.2⟩)
    simp only
    by_cases z:0<m.bal+crTake p m a
    ·exact absurd ⟨z,h2.1⟩ c
    ·omega
  ·have:=hf x
   simp only
   omega
theorem start_mi {p:ParD} (hr:parR p=true) {m:MemD} (h:MI p m) (hf:MF p m):MI p (startM p m).1∧MF p (startM p m).1:=by
 obtain ⟨s1,s2⟩:=parR_all hr
 have f1:=stakesB_facts s1
 have f3:=parR_streak hr
 have h1:=h.b
 unfold startM
 split
 ·rename_i c
  have g:=whole_facts hr c.2.1
  simp only [gfitsP,Bool.and_eq_true,decide_eq_true_eq] at g
  refine ⟨⟨h.b,?_,h.sc,?_,h.ow,.inl (.inl rfl)⟩,fun _=>c.2.1⟩
  ·show 0≤wholeP p m.bal∧wholeP p m.bal≤_
   omega
  ·show (0:Int)≤0∧(0:Int)≤p.streak
   omega
 ·exact ⟨h,hf⟩
theorem tot_leL {B:Int}:∀ (xs:List Int),(∀ x∈xs,x≤B)→tot xs≤xs.length*B
 | [],_=>by simp [tot,sumK]
 | x::xs,hx=>by
  have ih:=tot_leL xs fun y hy=>hx y (List.mem_cons_of_mem _ hy)
  have h1:=hx x List.mem_cons_self
  rw [tot_cons',List.length_cons]
  have:(((xs.length+1:Nat)):Int)*B=xs.length*B+B:=by
   rw [Int.natCast_add,Int.add_mul]; simp
  omega
theorem act_le {p:ParD} {l:List MemD} (hl:l.length≤128) (h:∀ m∈l,MI p m):actL l≤140737488355328:=by
 have h1:=tot_leL (B:=1099511627776) ((cP l l.length).map (effI l)) fun x hx=>by
  obtain ⟨i,hi,rfl⟩:=List.mem_map.1 hx
  have:=cP_lt hi
  exact (h _ (gr_mem this)).e.2
 rw [List.length_map] at h1
 have h2:=cP_len l l.length
 unfold actL
 omega
theorem ms_of {h:PH} {v:SV} {s:StD} (hs:IsSt h v s) (hf:fitsS s=true):∀ m∈s.members,MI s.par m∧MF s.par m:=fun m hm=>by
 have hr:parR s.par=true:=(fitsT_iff.1 hf).1
 exact mi_of hr (hs.mo m hm) (fits_mem hf m hm).1
theorem wg_ms {s:StD} {D:Nat} (ti:TkI s D) (h:∀ m∈s.members,MI s.par m):∀ m∈(wgS s).members,MI s.par m :=
 upI_ok (MI s.par) (fun k _ hm=>wg_mi ti.r ti.ok.p _ _ k hm) h _ (Nat.le_refl _)
theorem mt_ms {s:StD} {D:Nat} (ti:TkI s D) {r:RepD} (ha:0≤r.act∧r.act≤18446744073709551615) (h:∀ m∈s.members,MI s.par m):∀ k,k≤(mtW s).length→∀ m∈(mtX s r k).1,MI s.par m
 | 0,_=>h
 | k+1,hk=>by
  have ih:=mt_ms ti ha h k (by omega)
  have hx:=mt_k ti ha (k:=k) (by omega)
  have hW:(mtW s).getD k 0∈mtW s:=by
   rw [List.getD_eq_getElem?_getD,List.getElem?_eq_getElem (by omega),Option.getD_some]
   exact List.getElem_mem _
  have hc:=(thI_cnt hW).1
  show ∀ m∈((mtX s r k).1.set ((mtW s).getD k 0) (payM s.par (gr zeroM (mtX s r k).1 ((mtW s).getD k 0)) (at0 (mtP s r) k)).1),MI s.par m
  refine setPm ih fun hi=>pay_mi (grP ih hi) ((mt_p ti ha).1 k).1 ?_
  show _∨_
  rw [(hx.s _).1]
  exact hc
theorem fn_ms {s:StD} {D:Nat} (ti:TkI s D) (r:RepD) (h:∀ m∈s.members,MI s.par m):∀ m∈(fnS s r).members,MI s.par m:=fun m hm =>
 (upI_ok (fun m=>MemOk m∧MI s.par m) (fun k _ hm=>⟨fnF_ok ti.ok.p ti.r _ _ k hm.1,fine_mi ti.ok.p ti.r _ _ k hm.1 hm.2⟩) (fun m hm=>⟨ti.be.m m hm,h m hm⟩) _ (Nat.le_refl _) m hm).2
theorem ej_ms {s:StD} (hr:parR s.par=true) (t:Int) (h:∀ m∈s.members,MI s.par m):∀ m∈(ejS s t s.members.length).members,MI s.par m∧MF s.par m:=fun m hm=>by
 have e:(ejS s t s.members.length).members=s.members.map (ejF s.par):=upN_all _ _
 rw [e] at hm
 obtain ⟨x,hx,rfl⟩:=List.mem_map.1 hm
 exact ej_mi hr (h x hx)
theorem lv_ms {s:StD} (hr:parR s.par=true) (t:Int) (W:List Int) {ds:List DueD} (h:∀ m∈s.members,MI s.par m∧MF s.par m):∀ k,∀ m∈(lvK t W (s.members,ds) k).1,MI s.par m∧MF s.par m
 | 0=>h
 | k+1=>by
  have ih:=lv_ms hr t W (ds:=ds) h k
  show ∀ m∈((lvK t W (s.members,ds) k).1.set (at0 W k).toNat (endR (gr zeroM (lvK t W (s.members,ds) k).1 (at0 W k).toNat) 5)),_
  exact setPm (P:=fun m=>MI s.par m∧MF s.par m) ih fun hi=>ended_mi hr (grP (P:=fun m=>MI s.par m∧MF s.par m) ih hi).1 (.inr rfl)
theorem new_mi {p:ParD} (hr:parR p=true) {a:Int} (ha:0≤a∧a<64):MI p ⟨0,0,0,0,a,4⟩∧MF p ⟨0,0,0,0,a,4⟩:=by
 obtain ⟨s1,s2⟩:=parR_all hr
 have f1:=stakesB_facts s1
 have f2:=scoresB_facts s2
 have f3:=parR_streak hr
 exact ⟨⟨by simp only; omega,by simp,by simp only; omega,by simp only; omega,ha,.inr (.inr ⟨.inl rfl,rfl,rfl⟩)⟩,fun c=>by simp [cntM] at c⟩
theorem crTo_ms {p:ParD} (hr:parR p=true) {i:Nat} {a acct:Int} (ha:0≤a) {x:CrX} (h:∀ m∈x.ms,MI p m∧MF p m):∀ m∈(crTo p i a acct x).ms,MI p m∧MF p m :=
 setPm (P:=fun m=>MI p m∧MF p m) h fun hi=>by
  have g:=grP (P:=fun m=>MI p m∧MF p m) h hi
  exact cred_mi hr g.1 g.2 ha
theorem crStep_ms {p:ParD} (hr:parR p=true) {d:DepD} (ha:0≤d.amt) (hd:0≤d.acct∧d.acct<64) {x:CrX} (h:∀ m∈x.ms,MI p m∧MF p m):∀ m∈(crStep p d x).ms,MI p m∧MF p m:=by
 unfold crStep
 split
 ·split
  ·exact h
  ·refine crTo_ms hr ha fun m hm=>?_
   rcases List.mem_append.1 hm with hm | hm
   ·exact h m hm
   ·rw [List.mem_singleton] at hm
    subst hm
    exact new_mi hr hd
 ·exact crTo_ms hr ha h
theorem crK_ms {p:ParD} (hr:parR p=true) {l:List DepD} (hl:∀ d∈l,0≤d.amt∧0≤d.acct∧d.acct<64) {x:CrX} (h:∀ m∈x.ms,MI p m∧MF p m):∀ k,k≤l.length→∀ m∈(crK p l x k).ms,MI p m∧MF p m
 | 0,_=>h
 | k+1,hk=>by
  have hd:=hl (gr zeroDep l k) (gr_mem (by omega))
  exact crStep_ms hr hd.1 hd.2 (crK_ms hr hl h k (by omega))
theorem stK_ms {p:ParD} (hr:parR p=true) (t:Int) (W:List Int) {x:StX} (h:∀ m∈x.ms,MI p m∧MF p m):∀ k,∀ m∈(stK p t W x k).ms,MI p m∧MF p m
 | 0=>h
 | k+1=>by
  have ih:=stK_ms hr t W h k
  rw [stK,stStep]
  split
  ·exact setPm (P:=fun m=>MI p m∧MF p m) ih fun hi=>by
    have g:=grP (P:=fun m=>MI p m∧MF p m) ih hi
    exact start_mi hr g.1 g.2
  ·exact setPm (P:=fun m=>MI p m∧MF p m) ih fun hi=>ended_mi hr (grP (P:=fun m=>MI p m∧MF p m) ih hi).1 (.inl rfl)
theorem en_ms {s:StD} {D:Nat} (ti:TkI s D) (r:RepD) (t:Int) (h:∀ m∈s.members,MI s.par m∧MF s.par m):∀ m∈(enS s r t).members,MI s.par m∧MF s.par m:=by
 unfold enS
 split
 ·have hpl:=ti.pl
  have hx:∀ m∈(enX s).ms,MI s.par m∧MF s.par m:=crK_ms ti.r (fun d hd=>by have:=ti.oo d hd; exact ⟨this.1.a.1,this.2.1,by omega⟩) h _ (Nat.le_refl _)
  exact stK_ms ti.r t _ hx _
 ·exact h
variable {L:Own} {h:PH} {K:PK}
abbrev moB' (bo cap:Nat) (ql:List QM):Blk:=⟨bo,75,ql.flatMap motC,cap⟩
abbrev mfB (b5:Nat) (done:Bool):Blk:=⟨b5,4,[.bool done],1⟩
theorem setQ_map' {ql:List QM} {k:Nat} (a b:Value) (m:MotD):(ql.set k (a,b,m)).map (fun x=>x.2.2)=(ql.map (fun x=>x.2.2)).set k m:=by rw [List.map_set]
theorem setQ_ok' {ql:List QM} {k:Nat} {q:QM} {h:PH} (hm:MotsOk h ql) (hq:IsMot h q):MotsOk h (ql.set k q):=fun x hx=>by
 rcases List.mem_or_eq_of_mem_set hx with hx | rfl
 ·exact hm x hx
 ·exact hq
theorem motSet {ql:List QM} {k:Nat} (hk:k<ql.length) (st:Int):(ql.flatMap motC).set (k*33+30) (.int .i64 st)=(ql.set k ((gr zeroQM ql k).1,(gr zeroQM ql k).2.1,{ (gr zeroQM ql k).2.2 with state:=st })).flatMap motC :=
 flatG_set motC_len zeroQM ql (i:=k) (m:=30) hk (by decide) (by simp [motC,parC])
theorem motSetD {ql:List QM} {k:Nat} (hk:k<ql.length) (due:Int):(ql.flatMap motC).set (k*33+29) (.int .i64 due)=(ql.set k ((gr zeroQM ql k).1,(gr zeroQM ql k).2.1,{ (gr zeroQM ql k).2.2 with due:=due })).flatMap motC :=
 flatG_set motC_len zeroQM ql (i:=k) (m:=29) hk (by decide) (by simp [motC,parC])
theorem isMot_st {h:PH} {q:QM} (hq:IsMot h q) {st due:Int} (hs:0≤st∧st≤100) (hd : -9223372036854775808≤due∧due≤9223372036854775807):IsMot h (q.1,q.2.1,{ q.2.2 with state:=st,due:=due }) :=
 ⟨hq.y,hq.n,hq.ok.a,fun z hz=>by
  have hn:=hq.ok.n
  simp only [List.forall_mem_cons] at hn
  simp only [List.mem_cons,List.not_mem_nil,or_false] at hz
  rcases hz with rfl | rfl | rfl | rfl | rfl | rfl<;>omega,hq.ok.p⟩
theorem grQ_map {ql:List QM} {ms:List MotD} (hq:ql.map (fun x=>x.2.2)=ms) {k:Nat} (hk:k<ms.length):(gr zeroQM ql k).2.2=gr zeroMot ms k:=by
 subst hq
 have hk':k<ql.length:=by simpa using hk
 rw [gr_lt hk',gr_lt (by simpa using hk'),List.getElem_map]
theorem mfin1_any {ql:List QM} {bo cap b5 k:Nat} {done:Bool} (hkl:k<ql.length) (hl:ql.length≤1000) (hm:MotsOk h ql)
  (hyes:(gr zeroQM ql k).2.2.state=2→K (.int .i64 0) (moB' bo cap (ql.set k ((gr zeroQM ql k).1,(gr zeroQM ql k).2.1,finM (gr zeroQM ql k).2.2 done))::mfB b5 done::L) h)
  (hno:¬ (gr zeroQM ql k).2.2.state=2→K (.int .i64 291) (moB' bo cap ql::mfB b5 done::L) h) :
  Spec Tryz.prog 273 [.pointer (some ⟨bo,k*33,none⟩),.pointer (some ⟨b5,0,none⟩)] (moB' bo cap ql::mfB b5 done::L) h K:=by
 have g30:∀ (K:Value→Prop) (t:Tok K),xNth (ql.flatMap motC) (k*33+30) K t=K (.int .i64 (gr zeroQM ql k).2.2.state):=fun K t=>xNth_rec motC_len zeroQM ql hkl (by decide) rfl K t
 have hk33:=flat_lt (n:=ql.length) (w:=33) hkl (m:=32) (by decide)
 have hsum:(ql.map fun a=>(motC a).length).sum=ql.length*33:=by rw [← List.length_flatMap,flatG_len motC_len]
 refine x_enterA Tryz.func273 rfl (rs:=[_]) rfl rfl mixed (by kernel_rfl) rfl rfl fun ap nd=>?_
 have hbo:h bo=noC:=ap.1
 have hb5:h b5=noC:=ap.2.1
 have nb:bo≠b5:=Ne.symm nd.1.1
 clear ap nd
 simp -dsimp -implicitDefEqProofs (disch:=first|with_reducible assumption|omega) [go_sem,g30]
 by_cases c:(gr zeroQM ql k).2.2.state=2
 ·have hy:=hyes c
  have s1:=motSet hkl 4
  simp -dsimp -implicitDefEqProofs (disch:=first|with_reducible assumption|omega) [go_sem,g30]
  refine ⟨by omega,?_⟩
  rw [s1]
  have hkl2:k<(ql.set k ((gr zeroQM ql k).1,(gr zeroQM ql k).2.1,{ (gr zeroQM ql k).2.2 with state:=4 })).length:=by rw [List.length_set]; exact hkl
  cases done with
  | false =>
   refine xx ?_
   exact fin_here hy
  | true =>
   have s2:=motSet hkl2 3
   have e2:gr zeroQM (ql.set k ((gr zeroQM ql k).1,(gr zeroQM ql k).2.1,{ (gr zeroQM ql k).2.2 with state:=4 })) k=((gr zeroQM ql k).1,(gr zeroQM ql k).2.1,{ (gr zeroQM ql k).2.2 with state:=4 }):=by rw [gr_lt hkl2,List.getElem_set_self]
   rw [e2,List.set_set] at s2
   refine xx ?_
   refine ⟨by rw [← List.map_set (f:=fun a=>(motC a).length),← List.length_flatMap,flatG_len motC_len,List.length_set]; omega,?_⟩
   rw [s2]
   exact fin_here hy
 ·have hn:=hno c
  refine xx ?_
  exact fin_here hn
theorem mchF_any {ql:List QM} {ms:List MotD} {b5:Nat} (v:Value) (hv:Recs motC 33 h v ql) (hq:ql.map (fun x=>x.2.2)=ms) (hm:MotsOk h ql) (hl:ql.length≤1000) (hb:∀ m∈ms,m.yes.length≤1000∧m.no.length≤1000) (i:Int) (hi : -9223372036854775808≤i∧i≤9223372036854775807) (done:Bool)
  (hk:∀ h' r ql',PH.le h h'→Recs motC 33 h' r ql'→ql'.map (fun x=>x.2.2)=(finP ms i done).1→MotsOk h' ql'→K (.tuple #[r,.int .i64 (finP ms i done).2]) L h') :
  Spec Tryz.prog 272 [v,.int .i64 i,.func (.func 273) #[] #[.pointer (some ⟨b5,0,none⟩)]] (mfB b5 done::L) h K:=by
 have hql:ql.length=ms.length:=by rw [← hq,List.length_map]
 have hv0:=hv
 obtain ⟨va,vc,rfl,_⟩:=hv.open
 have bad:∀ h' e,PH.le h h'→finP ms i done=([],e)→K (.tuple #[.slice none 0 0,.int .i64 e]) L h':=fun h' e le eq=>by
  have:=hk h' (.slice none 0 0) [] le (Recs.nil motC_len h') (by rw [eq]; rfl) (fun x hx=>by cases hx)
  rw [eq] at this
  exact this
 refine x_enterA Tryz.func272 rfl (rs:=[_,_]) rfl rfl mixed (by kernel_rfl) rfl rfl fun ap nd=>?_
 clear ap nd
 refine xx ?_
 refine mwi_any _ _ _ ?_
 rw [hql] at hv0 ⊢
 cases q1:wi i 0 ((ms.length:Int)-1) with
 | false =>
  have:=bad h 230 (PH.le_refl _) (by rw [finP,if_neg (fun c=>by rw [show wi i 0 ((ms.length:Int)-1)=true from wi_iff.2 (by omega)] at q1; cases q1)])
  refine xx ?_
  exact fin_tail (fin_here this)
 | true =>
 have q1':=wi_iff.1 q1
 obtain ⟨k,rfl⟩:=Int.eq_ofNat_of_zero_le q1'.1
 have hkl:k<ms.length:=by omega
 have ev:finP ms k done=if (gr zeroMot ms k).state=2 then (ms.set k (finM (gr zeroMot ms k) done),0) else ([],291):=by
  rw [finP,if_pos (by omega)]; rfl
 refine xx ?_
 refine Spec.apn (mown_any _ hv0 hq hm hl hb fun h5 o ql' le5 oko apo eq' mo' ap nd=>?_)
 have hql':ql'.length=ms.length:=by rw [← eq',List.length_map]
 obtain ⟨bo,co,rfl⟩:∃ bt cap,o=some (bt,cap):=by
  cases o with
  | none=>have:ms.length=0:=oko; omega
  | some p=>exact ⟨_,_,rfl⟩
 have hbo:h5 bo=noC:=apo.2
 clear ap nd
 rw [oent_some]
 simp only [ovs]
 refine xx ?_
 have egr:=grQ_map eq' hkl
 refine Spec.ap (mfin1_any (by omega) (by omega) mo' (fun c ap=>?_) (fun c ap=>?_))
 ·have hbo6:h5 bo=noC:=ap.1
  clear ap
  rw [egr] at c
  rw [if_pos c] at ev
  rw [egr]
  refine xx ?_
  refine fin_pub (e:=75) (sz:=33) (n:=ms.length) (o:=some (bo,co)) oko (by rw [flatG_len motC_len,List.length_set,hql']) (by omega) (L0:=[]) ⟨trivial,hbo6⟩ fun h7 le7 sl=>fin_tail (fin_here ?_)
  have hq2:=gr_lt (z:=zeroQM) (l:=ql') (i:=k) (by omega)
  have him:IsMot h5 (gr zeroQM ql' k):=mo' _ (by rw [hq2]; exact List.getElem_mem _)
  have him2:IsMot h5 ((gr zeroQM ql' k).1,(gr zeroQM ql' k).2.1,finM (gr zeroMot ms k) done):=by
   rw [← egr]
   exact isMot_st him (st:=if done then 3 else 4) (by cases done<;>decide) (him.ok.n _ (by simp))
  have:=hk h7 _ (ql'.set k ((gr zeroQM ql' k).1,(gr zeroQM ql' k).2.1,finM (gr zeroMot ms k) done)) (le5.trans le7) (by have:=Recs.pub (f:=motC) (w:=33) (l:=ql'.set k ((gr zeroQM ql' k).1,(gr zeroQM ql' k).2.1,finM (gr zeroMot ms k) done)) (o:=some (bo,co)) motC_len (by rw [List.length_set,hql']; exact sl); rwa [List.length_set,hql'] at this) (by rw [setQ_map',eq',ev]) (fun x hx=>(setQ_ok' mo' him2 x hx).up le7)
  rw [ev] at this
  exact this
 ·clear ap
  rw [egr] at c
  rw [if_neg c] at ev
  have:=bad h5 291 le5 ev
  refine xx ?_
  exact fin_tail (fin_tail (fin_here this))
theorem mfinish_any {ql:List QM} {ms:List MotD} (v:Value) (hv:Recs motC 33 h v ql) (hq:ql.map (fun x=>x.2.2)=ms) (hm:MotsOk h ql) (hl:ql.length≤1000) (hb:∀ m∈ms,m.yes.length≤1000∧m.no.length≤1000) (i:Int) (hi : -9223372036854775808≤i∧i≤9223372036854775807) (done:Bool)
  (hk:∀ h' r ql',PH.le h h'→Recs motC 33 h' r ql'→ql'.map (fun x=>x.2.2)=(finP ms i done).1→MotsOk h' ql'→K (.tuple #[r,.int .i64 (finP ms i done).2]) L h') :
  Spec Tryz.prog 162 [v,.int .i64 i,.bool done] L h K:=by
 refine x_enter Tryz.func162 rfl (rs:=[_,_]) rfl rfl mixed (by kernel_rfl) rfl rfl ?_
 refine xx ?_
 refine xnew fun b5 n_b5 h_b5=>?_
 try simp only [Apart] at n_b5
 refine xx ?_
 refine mchF_any v hv hq hm hl hb i hi done fun h' r ql' le i1 i2 i3=>?_
 have:=hk h' r ql' le i1 i2 i3
 refine xx ?_
 exact fin_here this
theorem Sl.drop {h:PH} {a:Option Addr} {n c sz:Nat} {cs:List Value} (hs:Sl h (.slice a n c) n sz cs) (i:Nat) (hi:i≤n):Sl h (.slice (cutA a c i sz) (n-i) (c-i)) (n-i) sz (cs.drop (i*sz)):=by
 obtain ⟨h1,a',c',h2,h3,h4,h5,h6,h7⟩:=hs
 injection h2 with e1 e2 e3
 subst e1; subst e3
 refine ⟨by rw [List.length_drop,h1,Nat.sub_mul],cutA a c i sz,c-i,rfl,by omega,by omega,by omega,fun hn=>?_,fun m v hm=>?_⟩
 ·unfold cutA at hn
  split at hn
  ·omega
  ·cases a with
   | none=>have:=h6 rfl; omega
   | some q=>simp at hn
 ·rw [List.getElem?_drop] at hm
  have hlt:=(List.getElem?_eq_some_iff.1 hm).1
  have hne:¬ c=i:=fun e=>by
   have:n=i:=by omega
   subst this
   omega
  have:=h7 (i*sz+m) v hm
  unfold cutA
  rw [if_neg hne]
  cases a with
  | none=>simp [elemCell] at this
  | some q =>
   simp only [elemCell,Option.map_some,add_add'] at this ⊢
   exact this
end Go.X
