/- Lemmas and contracts for a statement about the given program. Conditions: as each says. -/
import Derived.Test.YtmmfajokfdaokaaGreatQ29
import Derived.Test.YtmmfajokfdaokaaGreatQ30
set_option linter.unusedVariables false
set_option linter.unusedSimpArgs false
set_option maxHeartbeats 12800000
set_option maxRecDepth 20000
namespace Go.X
open Go.RowKit Go.Proofs Go.Bl
theorem upI_bal {f:Nat→MemD→MemD} (hf:∀ k m,(f k m).bal=m.bal) (l:List MemD):∀ k,k≤l.length→(upI f l k).map MemD.bal=l.map MemD.bal
 | 0,_=>rfl
 | k+1,hk=>by
  have e:(gr zeroM l k).bal=(l.map MemD.bal)[k]'(by rw [List.length_map]; omega):=by rw [List.getElem_map,gr_lt hk]
  rw [upI,List.map_set,upI_bal hf l k (by omega),hf,e,List.set_getElem_self]
theorem BeM.upI {f:Nat→MemD→MemD} (hf:∀ k m,MemOk m→MemOk (f k m)∧(f k m).owner=m.owner) {l:List MemD} {ps:List Int} (h:BeM l ps) {k:Nat} (hk:k≤l.length):BeM (upI f l k) ps:=by
 have:=upI_ok (f:=f) (l:=l) (fun m=>MemOk m∧0≤m.owner∧m.owner<ps.length) (fun k m hm=>⟨(hf k m hm.1).1,by rw [(hf k m hm.1).2]; exact hm.2⟩) (fun m hm=>⟨h.m m hm,h.o m hm⟩) k hk
 exact ⟨fun m hm=>(this m hm).1,fun m hm=>(this m hm).2,h.p⟩
theorem BeM.upN {f:MemD→MemD} (hf:∀ m,MemOk m→MemOk (f m)∧(f m).owner=m.owner) {l:List MemD} {ps:List Int} (h:BeM l ps) {k:Nat} (hk:k≤l.length):BeM (upN f l k) ps:=by
 have:=upN_ok (f:=f) (l:=l) (fun m=>MemOk m∧0≤m.owner∧m.owner<ps.length) (fun m hm=>⟨(hf m hm.1).1,by rw [(hf m hm.1).2]; exact hm.2⟩) (fun m hm=>⟨h.m m hm,h.o m hm⟩) k hk
 exact ⟨fun m hm=>(this m hm).1,fun m hm=>(this m hm).2,h.p⟩
theorem row_upI {f:Nat→MemD→MemD} (hf:∀ k m,(f k m).status=m.status) {l:List MemD} {q:List Int} {st:Int} (h:RowP l q st) {k:Nat} (hk:k≤l.length):RowP (upI f l k) q st :=
 row_eq h (upI_len f l k) fun j _=>by
  rw [upI_gr f l k hk j]
  split
  ·rw [hf]
  ·exact Iff.rfl
theorem stepP_b {calm pr ac:Int}:0≤(stepP calm pr ac).1∧(stepP calm pr ac).1≤1073741824:=by
 unfold stepP
 split
 ·decide
 ·simp only; omega
theorem wg_ti {s:StD} {D:Nat} (h:TkI s D):TkI (wgS s) D:=by
 have hl:(wgS s).members.length=s.members.length:=upI_len _ _ _
 obtain ⟨a1,a2,a3,a4,a5,a6,a7⟩:=h.ok.all
 have hc:=stepP_b (calm:=s.calm) (pr:=preS s) (ac:=actS s)
 have hb:(wgS s).members.map MemD.bal=s.members.map MemD.bal:=upI_bal (fun k m=>(wgF_f _ _ _ k m).2.2.1) _ _ (Nat.le_refl _)
 refine ⟨h.r,StOk.set h.ok h.ok.p a1 a2 a3 a4 a5 a6 (by omega),h.ep,BeM.upI (fun k m hm=>⟨wgF_ok h.ok.p h.r _ _ k hm,(wgF_f _ _ _ k m).1⟩) h.be (Nat.le_refl _),by rw [hl]; exact h.ml,h.pl,row_upI (fun k m=>(wgF_f _ _ _ k m).2.1) h.en (Nat.le_refl _),row_upI (fun k m=>(wgF_f _ _ _ k m).2.1) h.ex (Nat.le_refl _),h.dd,h.dn,fun d hd=>?_,h.on,h.mm,h.mn,?_,h.top⟩
 ·rw [hl]; exact h.oo d hd
 ·rw [hb]; exact h.mon
theorem mt_n {s:StD} {D:Nat} (h:TkI s D) {r:RepD} (ha:0≤r.act∧r.act≤18446744073709551615):0≤mtN s r∧s.gen+s.mint+mtN s r≤s.most:=by
 have:=h.top
 have hb:=bud_b h.ok.p ha
 unfold mtN mintP
 split
 ·omega
 ·rename_i c
  omega
theorem mtL_ok {s:StD} {D:Nat} (h:TkI s D) (k:Nat) (hk:k≤s.members.length):∀ x∈mtL s k,MemOk x:=fun x hx=>by
 obtain ⟨j,hj,rfl⟩:=List.mem_map.1 hx
 exact h.be.m _ (gr_mem (by have:=thI_lt hj; omega))
theorem mt_p {s:StD} {D:Nat} (h:TkI s D) {r:RepD} (ha:0≤r.act∧r.act≤18446744073709551615):(∀ i,0≤at0 (mtP s r) i∧at0 (mtP s r) i≤mtN s r)∧(mtP s r).length=(mtW s).length∧∀ k,k≤(mtP s r).length→0≤sumK (mtP s r) k∧sumK (mtP s r) k≤mtN s r:=by
 have hn:=(mt_n h ha).1
 have hm:=mtL_ok h s.members.length (Nat.le_refl _)
 refine ⟨fun i=>prizeL_at h.r hn hm i,by rw [mtP,prizeL_len,mtL,List.length_map]; rfl,fun k hk=>?_⟩
 rw [mtP,prizeL_len] at hk
 exact split_le hn (fun i=>at0_map (weightP s.par) _ (fun x hx=>(wt_b h.r (hm x hx)).1) i) (by rw [List.length_map]; exact hk)
theorem mtW_lt {s:StD}:∀ i∈mtW s,i<s.members.length:=fun i hi=>thI_lt hi
theorem mt_k {s:StD} {D:Nat} (h:TkI s D) {r:RepD} (ha:0≤r.act∧r.act≤18446744073709551615) {k:Nat} (hk:k≤(mtW s).length):MtOk (mtP s r) (s.members,s.purses) (mtX s r k) k :=
 mtK_ok h.ok.p h.be mtW_lt (fun i=>((mt_p h ha).1 i).1) k hk
theorem mtk_ti {s:StD} {D:Nat} (h:TkI s D) {r:RepD} (ha:0≤r.act∧r.act≤18446744073709551615) {k:Nat} (hk:k≤(mtW s).length):TkI (mtSk s r k) D:=by
 have hx:=mt_k h ha hk
 obtain ⟨hn,hn2⟩:=mt_n h ha
 obtain ⟨_,p2,p3⟩:=mt_p h ha
 have hp:=p3 k (by omega)
 obtain ⟨a1,a2,a3,a4,a5,a6,a7⟩:=h.ok.all
 obtain ⟨b1,b2,b3,b4,b5,b6⟩:=h.parts
 have hs:=h.sum
 have ht:=h.top
 have hm:=h.mon
 have l1:(mtSk s r k).members.length=s.members.length:=hx.l1
 have l2:(mtSk s r k).purses.length=s.purses.length:=hx.l2
 have e:tot (mtX s r k).2+tot ((mtX s r k).1.map MemD.bal)=tot s.purses+tot (s.members.map MemD.bal)+sumK (mtP s r) k:=hx.t
 refine ⟨h.r,StOk.set h.ok h.ok.p a1 a2 (by omega) a4 (by omega) a6 a7,h.ep,hx.b,by rw [l1]; exact h.ml,by rw [l2]; exact h.pl,row_eq h.en l1 (fun j _=>by rw [show (gr zeroM (mtSk s r k).members j).status=_ from (hx.s j).1]),row_eq h.ex l1 (fun j _=>by rw [show (gr zeroM (mtSk s r k).members j).status=_ from (hx.s j).1]),fun x hx=>by rw [l2]; exact h.dd x hx,h.dn,fun d hd=>by rw [l1,l2]; exact h.oo d hd,h.on,fun m hm=>by rw [l2]; exact h.mm m hm,h.mn,?_,?_⟩
 ·show tot (mtX s r k).2+tot ((mtX s r k).1.map MemD.bal)+dTot s.dues+tot (s.pool.map DepD.amt)+(s.treas+mtN s r-sumK (mtP s r) k)+s.burn=s.gen+(s.mint+mtN s r)
  omega
 ·show s.gen+(s.mint+mtN s r)≤s.most∧_
  exact ⟨by omega,ht.2⟩
theorem mt_ti {s:StD} {D:Nat} (h:TkI s D) {r:RepD} (ha:0≤r.act∧r.act≤18446744073709551615):TkI (mtS s r) D:=mtk_ti h ha (Nat.le_refl _)
theorem fn_b {s:StD} {D:Nat} (h:TkI s D) (r:RepD) {k:Nat} (hk:k≤s.members.length):0≤fnUs s r k∧fnUs s r k≤fnTs s r k∧fnTs s r k+tot ((upI (fnF s.par s.marks r.mode) s.members k).map MemD.bal)=tot (s.members.map MemD.bal):=fn_tot h.ok.p h.r _ _ h.be.m k hk
theorem fnk_ti {s:StD} {D:Nat} (h:TkI s D) (r:RepD) {k:Nat} (hk:k≤s.members.length):TkI (fnSk s r k) D:=by
 have hl:(fnSk s r k).members.length=s.members.length:=upI_len _ _ _
 obtain ⟨a1,a2,a3,a4,a5,a6,a7⟩:=h.ok.all
 obtain ⟨b1,b2,b3,b4,b5,b6⟩:=h.parts
 have hs:=h.sum
 obtain ⟨c1,c2,c3⟩:=fn_b h r hk
 have hbe:BeM (fnSk s r k).members s.purses:=BeM.upI (fun k m hm=>⟨fnF_ok h.ok.p h.r _ _ k hm,(fnF_f _ _ _ k m).1⟩) h.be hk
 have c4:=hbe.bal
 have c5:tot ((fnSk s r k).members.map MemD.bal)=tot ((upI (fnF s.par s.marks r.mode) s.members k).map MemD.bal):=rfl
 have hm:=h.mon
 refine ⟨h.r,StOk.set h.ok h.ok.p a1 a2 a3 a4 (by omega) a6 a7,h.ep,hbe,by rw [hl]; exact h.ml,h.pl,row_upI (fun k m=>(fnF_f _ _ _ k m).2) h.en hk,row_upI (fun k m=>(fnF_f _ _ _ k m).2) h.ex hk,h.dd,h.dn,fun d hd=>by rw [hl]; exact h.oo d hd,h.on,h.mm,h.mn,?_,h.top⟩
 show tot s.purses+tot ((fnSk s r k).members.map MemD.bal)+dTot s.dues+tot (s.pool.map DepD.amt)+(s.treas+fnTs s r k)+s.burn=s.gen+s.mint
 omega
theorem fn_ok {s:StD} {D:Nat} (h:TkI s D) {r:RepD} (hr:r.burned=0):burnOk (fnSk s r s.members.length) (fnR s r s.members.length).burned:=by
 obtain ⟨a1,a2,a3,a4,a5,a6,a7⟩:=h.ok.all
 obtain ⟨b1,b2,b3,b4,b5,b6⟩:=h.parts
 obtain ⟨c1,c2,c3⟩:=fn_b h r (Nat.le_refl _)
 have c4:0≤tot ((upI (fnF s.par s.marks r.mode) s.members s.members.length).map MemD.bal):=(fnk_ti h r (Nat.le_refl _)).be.bal
 have hs:=h.sum
 refine ⟨?_,?_⟩
 ·show r.burned+fnUs s r s.members.length≤s.treas+fnTs s r s.members.length
  omega
 ·show s.burn+(r.burned+fnUs s r s.members.length)≤_
  omega
theorem fn_ti {s:StD} {D:Nat} (h:TkI s D) {r:RepD} (hr:r.burned=0):TkI (fnS s r) D:=by
 have h1:=fnk_ti h r (Nat.le_refl _)
 obtain ⟨a1,a2,a3,a4,a5,a6,a7⟩:=h1.ok.all
 obtain ⟨c1,c2⟩:=fn_ok h hr
 have c0:0≤(fnR s r s.members.length).burned:=by
  have:=(fn_b h r (Nat.le_refl _)).1
  show 0≤r.burned+_
  omega
 have hm:=h1.mon
 refine ⟨h1.r,StOk.set h1.ok h1.ok.p a1 a2 a3 (by omega) (by omega) a6 a7,h1.ep,h1.be,h1.ml,h1.pl,h1.en,h1.ex,h1.dd,h1.dn,h1.oo,h1.on,h1.mm,h1.mn,?_,h1.top⟩
 show tot (fnSk s r s.members.length).purses+tot ((fnSk s r s.members.length).members.map MemD.bal)+dTot (fnSk s r s.members.length).dues+tot ((fnSk s r s.members.length).pool.map DepD.amt)+((fnSk s r s.members.length).treas-(fnR s r s.members.length).burned)+((fnSk s r s.members.length).burn+(fnR s r s.members.length).burned)=(fnSk s r s.members.length).gen+(fnSk s r s.members.length).mint
 omega
theorem owe_dd {pn:Nat} {l:List DueD} (hl:∀ x∈l,DueOk x∧0≤x.acct∧x.acct<pn) {d:DueD} (hd:DueOk d) (ha:0≤d.acct∧d.acct<pn) (hs:dTot l+d.amt≤4611686018427387904):∀ x∈oweL l d,DueOk x∧0≤x.acct∧x.acct<pn:=fun x hx=>by
 have h1:=(oweL_ok (n:=l.length) (M:=dTot l) ⟨fun x hx=>(hl x hx).1,Int.le_refl _,Nat.le_refl _⟩ hd hs).d x hx
 refine ⟨h1,?_⟩
 rcases mem_oweL hx with hx | rfl | ⟨h2,rfl⟩
 ·exact (hl x hx).2
 ·exact ha
 ·exact (hl _ (grD_mem h2)).2
theorem ejF_f (q:ParD) (m:MemD):(ejF q m).owner=m.owner:=by
 unfold ejF; split<;>rfl
structure EjOk (q:ParD) (cs:List MemD) (xs:List Int) (ds:List DueD) (t:Int) (pn k:Nat):Prop where
 d:∀ x∈duN q cs t ds k,DueOk x∧0≤x.acct∧x.acct<pn
 n:(duN q cs t ds k).length≤ds.length+k
 t:dTot (duN q cs t ds k)+tot ((upN (ejF q) cs k).map MemD.bal)=dTot ds+tot (cs.map MemD.bal)
 x:RowP (upN (ejF q) cs k) (exN q cs xs k) 3
theorem ej_ok {q:ParD} {cs:List MemD} {ps:List Int} (hb:BeM cs ps) {xs:List Int} (hx:RowP cs xs 3) {ds:List DueD} (hd:∀ x∈ds,DueOk x∧0≤x.acct∧x.acct<ps.length) {t:Int} (ht:0≤t∧t≤2147483647) (hT:dTot ds+tot (cs.map MemD.bal)≤4611686018427387904):∀ k,k≤cs.length→EjOk q cs xs ds t ps.length k
 | 0,_=>⟨hd,by simp [duN],rfl,hx⟩
 | k+1,hk=>by
  have ih:=ej_ok (q:=q) hb hx hd ht hT k (by omega)
  have hl:=upN_len (ejF q) cs k
  have hat:=upN_at (ejF q) cs (k:=k) (by omega)
  obtain ⟨mo,o1,o2⟩:=hb.at (i:=k) (by omega)
  have hbu:BeM (upN (ejF q) cs k) ps:=hb.upN (fun m hm=>⟨ejF_ok hm,ejF_f q m⟩) (by omega)
  have hbl:=hbu.bl (i:=k) (by omega)
  rw [hat] at hbl
  have h3:=ih.t
  have hbs:=bal_set (ms:=upN (ejF q) cs k) (i:=k) (by omega) (ejF q (gr zeroM cs k))
  rw [hat] at hbs
  by_cases c:ejP q (gr zeroM cs k)
  ·have e1:ejF q (gr zeroM cs k)=endM (gr zeroM cs k):=if_pos c
   have hdo:=dueOf_ok ht mo
   have hsum:dTot (duN q cs t ds k)+(dueOf t (gr zeroM cs k)).amt≤4611686018427387904:=by show _+(gr zeroM cs k).bal≤_; omega
   refine ⟨?_,?_,?_,?_⟩
   ·rw [duN,if_pos c]
    exact owe_dd ih.d hdo ⟨o1,o2⟩ hsum
   ·rw [duN,if_pos c]
    have:=oweL_len (duN q cs t ds k) (dueOf t (gr zeroM cs k))
    have:=ih.n
    omega
   ·rw [duN,if_pos c,oweL_tot,upN,hbs,e1]
    show _+(gr zeroM cs k).bal+(_+(0-_))=_
    omega
   ·rw [upN,exN,if_pos c,e1]
    exact row_flt ih.x (by omega) (by simp [endM])
  ·have e1:ejF q (gr zeroM cs k)=gr zeroM cs k:=if_neg c
   refine ⟨?_,?_,?_,?_⟩
   ·rw [duN,if_neg c]; exact ih.d
   ·rw [duN,if_neg c]; have:=ih.n; omega
   ·rw [duN,if_neg c,upN,hbs,e1]
    omega
   ·rw [upN,exN,if_neg c,e1]
    exact row_set ih.x (by omega) (by rw [hat])
theorem ejk_ti {s:StD} {D:Nat} (h:TkI s D) {t:Int} (ht:0≤t∧t≤2147483647) {k:Nat} (hk:k≤s.members.length):TkI (ejS s t k) (D+k):=by
 have hl:(ejS s t k).members.length=s.members.length:=upN_len _ _ _
 obtain ⟨b1,b2,b3,b4,b5,b6⟩:=h.parts
 have hs:=h.sum
 have hm:=h.mon
 have e:=ej_ok (q:=s.par) (t:=t) h.be h.ex h.dd ht (by omega) k hk
 have et:dTot (ejS s t k).dues+tot ((ejS s t k).members.map MemD.bal)=dTot s.dues+tot (s.members.map MemD.bal):=e.t
 refine ⟨h.r,⟨h.ok.p,h.ok.u,h.ok.n⟩,h.ep,h.be.upN (fun m hm=>⟨ejF_ok hm,ejF_f _ m⟩) hk,by rw [hl]; exact h.ml,h.pl,row_eq h.en hl fun j _=>?_,e.x,e.d,Nat.le_trans e.n (by have:=h.dn; omega),fun d hd=>by rw [hl]; exact h.oo d hd,h.on,h.mm,h.mn,?_,h.top⟩
 ·show (gr zeroM (upN (ejF s.par) s.members k) j).status=1↔_
  rw [upN_gr _ _ k hk j]
  split
  ·unfold ejF
   split
   ·rename_i c
    have:=c.1
    simp only [endM]
    constructor
    ·intro e; cases e
    ·intro e; omega
   ·exact Iff.rfl
  ·exact Iff.rfl
 ·show tot s.purses+tot ((ejS s t k).members.map MemD.bal)+dTot (ejS s t k).dues+tot (s.pool.map DepD.amt)+s.treas+s.burn=s.gen+s.mint
  omega
structure LvRow (W rest en:List Int) (pn:Nat) (x:List MemD×List DueD) (k:Nat):Prop where
 rx:RowP x.1 (W.drop k++rest) 3
 e:RowP x.1 en 1
 o:∀ y∈x.1,0≤y.owner∧y.owner<pn
 d:∀ y∈x.2,DueOk y∧0≤y.acct∧y.acct<pn
theorem lvK_row {t:Int} (ht:0≤t∧t≤2147483647) {W rest en:List Int} {pn:Nat} {x:List MemD×List DueD} (hm:∀ y∈x.1,MemOk y) (h:LvRow W rest en pn x 0) (hT:dTot x.2+tot (x.1.map MemD.bal)≤4611686018427387904):∀ k,k≤W.length→LvRow W rest en pn (lvK t W x k) k
 | 0,_=>h
 | k+1,hk=>by
  have ih:=lvK_row ht hm h hT k (by omega)
  have hd:W.drop k=at0 W k::W.drop (k+1):=by rw [List.drop_eq_getElem_cons (by omega),at0_lt (by omega)]
  have hW:∀ i∈W,0≤i∧i<x.1.length:=fun i hi=>by
   have:=row_in h.rx (z:=i) (by simp; exact .inl hi)
   omega
  have lv:=lvK_ok ht hm (fun y hy=>(h.d y hy).1) hW hT k (by omega)
  have hin:=row_in ih.rx (z:=at0 W k) (by rw [hd]; simp)
  obtain ⟨i,he⟩:=Int.eq_ofNat_of_zero_le hin.1
  rw [he] at hin hd
  rw [Int.toNat_natCast] at hin
  rw [lvK,he,Int.toNat_natCast]
  have hi:i<(lvK t W x k).1.length:=by omega
  have ix:=ih.rx
  rw [hd,List.cons_append] at ix
  have mo:=lv.m _ (gr_mem (z:=zeroM) hi)
  have oo:=ih.o _ (gr_mem (z:=zeroM) hi)
  have hbt:=at0_le_tot (bal_pos lv.m) i
  rw [at0_bal hi] at hbt
  have h3:=lv.t
  refine ⟨row_pop ix (by simp [endR]),row_set ih.e hi ?_,fun y hy=>?_,owe_dd ih.d (dueOf_ok ht mo) oo ?_⟩
  ·rw [hin.2.2]; simp [endR]
  ·rcases List.mem_or_eq_of_mem_set hy with hy | rfl
   ·exact ih.o y hy
   ·exact oo
  ·show dTot _+(gr zeroM (lvK t W x k).1 i).bal≤_
   omega
theorem tot_filter_two {α:Type} (f:α→Int) (q:α→Bool):∀ l:List α,tot ((l.filter q).map f)+tot ((l.filter fun x => !q x).map f)=tot (l.map f)
 | []=>rfl
 | x::l=>by
  have ih:=tot_filter_two f q l
  rw [List.filter_cons,List.filter_cons,List.map_cons,tot_cons']
  cases c:q x
  ·simp only [Bool.false_eq_true,if_false,Bool.not_false,if_true,List.map_cons,tot_cons']; omega
  ·simp only [if_true,Bool.not_true,Bool.false_eq_true,if_false,List.map_cons,tot_cons']; omega
theorem rip_two (l:List DueD) (e:Int):dTot (l.filter (ripB e true))+dTot (l.filter (ripB e false))=dTot l:=by
 have h1:=tot_filter_two DueD.amt (ripB e true) l
 have h2:(fun x => !ripB e true x)=ripB e false:=by
  funext x
  unfold ripB
  cases decide (x.at'≤e)<;>rfl
 rw [h2] at h1
 exact h1
theorem lv_w {s:StD} {D:Nat} (h:TkI s D):(lvW s).length≤64∧(lvW s).length≤s.exit.length∧∀ i∈lvW s,0≤i∧i<s.members.length:=by
 have hp:=parR_streak h.r
 refine ⟨?_,?_,fun i hi=>?_⟩
 ·rw [lvW,List.length_take]; omega
 ·rw [lvW,List.length_take]; omega
 ·have:=row_in h.ex (List.mem_of_mem_take hi)
  omega
theorem lv_ok {s:StD} {D:Nat} (h:TkI s D) {t:Int} (ht:0≤t∧t≤2147483647) {k:Nat} (hk:k≤(lvW s).length):LvOk (s.members,s.dues) (lvK t (lvW s) (s.members,s.dues) k) k∧LvRow (lvW s) (s.exit.drop s.par.churn.toNat) s.entry s.purses.length (lvK t (lvW s) (s.members,s.dues) k) k:=by
 obtain ⟨b1,b2,b3,b4,b5,b6⟩:=h.parts
 have hs:=h.sum
 exact ⟨lvK_ok (x:=(s.members,s.dues)) ht h.be.m (fun y hy=>(h.dd y hy).1) (lv_w h).2.2 (by show dTot s.dues+tot (s.members.map MemD.bal)≤_; omega) k hk,
  lvK_row (x:=(s.members,s.dues)) ht h.be.m ⟨by rw [List.drop_zero,lvW,List.take_append_drop]; exact h.ex,h.en,h.be.o,h.dd⟩ (by show dTot s.dues+tot (s.members.map MemD.bal)≤_; omega) k hk⟩
theorem lv_d {s:StD} {D:Nat} (h:TkI s D) {t:Int} (ht:0≤t∧t≤2147483647):∀ x∈lvD s t,0≤x.acct∧x.acct<s.purses.length∧0≤x.amt:=fun x hx=>by
 have:=(lv_ok h ht (Nat.le_refl _)).2.d x (List.mem_filter.1 hx).1
 exact ⟨this.2.1,this.2.2,this.1.a.1⟩
theorem lv_ti {s:StD} {D:Nat} (h:TkI s D) {t:Int} (ht:0≤t∧t≤2147483647):TkI (lvS s t) (D+64):=by
 obtain ⟨l1,l2⟩:=lv_ok h ht (Nat.le_refl _)
 obtain ⟨b1,b2,b3,b4,b5,b6⟩:=h.parts
 have hs:=h.sum
 have hm:=h.mon
 have hw:=(lv_w h).1
 have hl:(lvS s t).members.length=s.members.length:=l1.l1
 obtain ⟨d1,d2,d3⟩:=dpK_ok h.be.p (lv_d h ht) (lvD s t).length (Nat.le_refl _)
 have hp:(lvS s t).purses.length=s.purses.length:=d1
 have hx:=l2.rx
 rw [List.drop_length,List.nil_append] at hx
 have et:=l1.t
 have e2:=rip_two (lvX s t).2 s.ep
 have e3:sumK ((lvD s t).map DueD.amt) (lvD s t).length=dTot (lvD s t):=by rw [dTot,tot,List.length_map]
 rw [e3] at d3
 refine ⟨h.r,⟨h.ok.p,h.ok.u,h.ok.n⟩,h.ep,⟨l1.m,fun x hx=>by rw [hp]; exact l2.o x hx,d2⟩,by rw [hl]; exact h.ml,by rw [hp]; exact h.pl,l2.e,hx,fun x hx=>by rw [hp]; exact l2.d x (List.mem_filter.1 hx).1,?_,fun d hd=>by rw [hl,hp]; exact h.oo d hd,h.on,fun m hm=>by rw [hp]; exact h.mm m hm,h.mn,?_,h.top⟩
 ·have h1:=l1.n
  have h2:((lvX s t).2.filter (ripB s.ep false)).length≤(lvX s t).2.length:=List.length_filter_le _ _
  have h3:=h.dn
  show ((lvX s t).2.filter (ripB s.ep false)).length≤_
  have h4:(lvX s t).2.length≤s.dues.length+(lvW s).length:=h1
  omega
 ·show tot (dpK (lvD s t) s.purses (lvD s t).length)+tot ((lvX s t).1.map MemD.bal)+dTot ((lvX s t).2.filter (ripB s.ep false))+tot (s.pool.map DepD.amt)+s.treas+s.burn=s.gen+s.mint
  have e4:dTot (lvX s t).2+tot ((lvX s t).1.map MemD.bal)=dTot s.dues+tot (s.members.map MemD.bal):=et
  have e5:dTot (lvD s t)=dTot ((lvX s t).2.filter (ripB s.ep true)):=rfl
  omega
theorem cr_ok {s:StD} {D:Nat} (h:TkI s D) {k:Nat} (hk:k≤s.pool.length):CrOk s.exit (crK s.par s.pool ⟨s.members,s.purses,s.entry⟩ k) s.purses.length (tot s.purses+tot (s.members.map MemD.bal)+sumK (s.pool.map DepD.amt) k)∧s.members.length≤(crK s.par s.pool ⟨s.members,s.purses,s.entry⟩ k).ms.length :=
 crK_ok (x:=⟨s.members,s.purses,s.entry⟩) h.ok.p (show s.purses.length≤9223372036854775807 by have:=h.pl; omega) ⟨h.be,h.ml,rfl,rfl,h.en,h.ex⟩ (fun d hd=>⟨(h.oo d hd).1.a.1,(h.oo d hd).2⟩) k hk
theorem en_x {s:StD} {D:Nat} (h:TkI s D):CrOk s.exit (enX s) s.purses.length (tot s.purses+tot (s.members.map MemD.bal)+tot (s.pool.map DepD.amt))∧s.members.length≤(enX s).ms.length:=by
 have:=cr_ok h (Nat.le_refl s.pool.length)
 have e:sumK (s.pool.map DepD.amt) s.pool.length=tot (s.pool.map DepD.amt):=by rw [tot,List.length_map]
 rw [e] at this
 exact this
theorem st_ok {s:StD} {D:Nat} (h:TkI s D) (r:RepD) {t:Int} (ht:0≤t∧t≤2147483647) {k:Nat} (hk:k≤(enW s).length) :
  StOkX (enW s) ((enX s).en.drop s.par.churn.toNat) ⟨(enX s).ms,s.dues,s.exit,r.out,r.started⟩ (stK s.par t (enW s) ⟨(enX s).ms,s.dues,s.exit,r.out,r.started⟩ k) s.purses.length k:=by
 obtain ⟨b1,b2,b3,b4,b5,b6⟩:=h.parts
 have hs:=h.sum
 obtain ⟨c1,c2⟩:=en_x h
 have c3:=c1.t
 have c4:=c1.b.pur
 have hob:=c1.b.o
 rw [c1.l2] at hob
 exact stK_ok h.ok.p h.r ht (x:=⟨(enX s).ms,s.dues,s.exit,r.out,r.started⟩) ⟨rfl,c1.b.m,hob,fun x hx=>(h.dd x hx).1,Nat.le_refl _,rfl,by rw [List.drop_zero,enW,List.take_append_drop]; exact c1.e,c1.x,Nat.le_refl _,Nat.le_refl _⟩ (by show dTot s.dues+tot ((enX s).ms.map MemD.bal)≤_; omega) k hk
theorem en_w {s:StD} {D:Nat} (h:TkI s D):(enW s).length≤64∧(enX s).en.length≤128:=by
 have hp:=parR_streak h.r
 have h1:=(en_x h).1
 have:=row_len h1.e
 have:=h1.l1
 refine ⟨?_,by omega⟩
 rw [enW,List.length_take]; omega
theorem st_acct {p:ParD} {t:Int} {pn:Nat} (ht:0≤t∧t≤2147483647) (W:List Int) {rest:List Int} {x:StX} (hx:∀ y∈x.ds,DueOk y∧0≤y.acct∧y.acct<pn) (H:∀ k,k≤W.length→StOkX W rest x (stK p t W x k) pn k) (hT:dTot x.ds+tot (x.ms.map MemD.bal)≤4611686018427387904):∀ k,k≤W.length→∀ y∈(stK p t W x k).ds,DueOk y∧0≤y.acct∧y.acct<pn
 | 0,_=>hx
 | k+1,hk=>by
  have ih:=st_acct ht W hx H hT k (by omega)
  have h1:=H k (by omega)
  have hd:W.drop k=at0 W k::W.drop (k+1):=by rw [List.drop_eq_getElem_cons (by omega),at0_lt (by omega)]
  have hin:=row_in h1.e (z:=at0 W k) (by rw [hd]; simp)
  have hi:(at0 W k).toNat<(stK p t W x k).ms.length:=by omega
  have mo:=h1.m _ (gr_mem (z:=zeroM) hi)
  have oo:=h1.o _ (gr_mem (z:=zeroM) hi)
  have hbt:=at0_le_tot (bal_pos h1.m) (at0 W k).toNat
  rw [at0_bal hi] at hbt
  have h3:=h1.t
  rw [stK,stStep]
  split
  ·exact ih
  ·exact owe_dd ih (dueOf_ok ht mo) oo (by show dTot _+(gr zeroM (stK p t W x k).ms (at0 W k).toNat).bal≤_; omega)
theorem en_ti {s:StD} {D:Nat} (h:TkI s D) (r:RepD) {t:Int} (ht:0≤t∧t≤2147483647):TkI (enS s r t) (D+64):=by
 unfold enS
 by_cases c:r.quo=true
 ·rw [if_pos c]
  obtain ⟨b1,b2,b3,b4,b5,b6⟩:=h.parts
  have hs:=h.sum
  have hm:=h.mon
  obtain ⟨c1,c2⟩:=en_x h
  have c3:=c1.t
  have c4:=c1.b.pur
  have hw:=(en_w h).1
  have h1:=st_ok h r ht (Nat.le_refl (enW s).length)
  have h2:=st_acct (p:=s.par) ht (enW s) (x:=⟨(enX s).ms,s.dues,s.exit,r.out,r.started⟩) h.dd (fun k hk=>st_ok h r ht hk) (by show dTot s.dues+tot ((enX s).ms.map MemD.bal)≤_; omega) _ (Nat.le_refl _)
  have hl:(enY s r t).ms.length=(enX s).ms.length:=h1.l1
  have he:=h1.e
  rw [List.drop_length,List.nil_append] at he
  have et:dTot (enY s r t).ds+tot ((enY s r t).ms.map MemD.bal)=dTot s.dues+tot ((enX s).ms.map MemD.bal):=h1.t
  have hp:=c1.l2
  have hn:(enY s r t).ds.length≤s.dues.length+(enW s).length:=h1.n
  have hd:=h.dn
  refine ⟨h.r,⟨h.ok.p,h.ok.u,h.ok.n⟩,h.ep,⟨h1.m,fun x hx=>by simp only; rw [hp]; exact h1.o x hx,c1.b.p⟩,by simp only; rw [hl]; exact c1.l1,by simp only; rw [hp]; exact h.pl,he,h1.rx,fun x hx=>by simp only; rw [hp]; exact h2 x hx,by simp only; omega,(fun d hd=>by cases hd),by simp,fun m hm=>by simp only; rw [hp]; exact h.mm m hm,h.mn,?_,h.top⟩
  simp only [List.map_nil,tot_nil]
  omega
 ·rw [if_neg c]
  exact ⟨h.r,h.ok,h.ep,h.be,h.ml,h.pl,h.en,h.ex,h.dd,Nat.le_trans h.dn (by omega),h.oo,h.on,h.mm,h.mn,h.mon,h.top⟩
theorem parR_enact {p:ParD} (h:parR p=true):0≤p.enact:=by
 simp only [parR,Bool.and_eq_true] at h
 have h2:=h.1.2
 simp only [othersB,List.all_cons,List.all_nil,id,Bool.and_eq_true,wi_iff,decide_eq_true_eq,and_true] at h2
 omega
theorem mo_0 {s:StD} {D:Nat} (h:TkI s D) (r:RepD):MoOk (moW s r) ⟨s.par,s.treas,s.purses,s.emer,moL s,r.done⟩ ⟨s.par,s.treas,s.purses,s.emer,moL s,r.done⟩ 0:=by
 refine ⟨h.r,h.ok.p,h.parts.2.2.2.2.1,rfl,h.be.p,rfl,rfl,fun m hm=>?_,fun j _ hj=>?_,Nat.le_refl _⟩
 ·obtain ⟨x,hx,rfl⟩:=List.mem_map.1 hm
  exact closeM_ok (parR_enact h.r) h.ep.1 (h.mm x hx)
 ·exact ripeI_state (by rw [← at0_lt hj]; exact List.getElem_mem hj)
theorem moW_in {s:StD} (r:RepD):(moW s r).Nodup∧∀ z∈moW s r,0≤z∧z<(moL s).length:=⟨ripeI_nodup _ _ _ _,fun z hz=>ripeI_mem hz⟩
theorem mo_k {s:StD} {D:Nat} (h:TkI s D) (r:RepD) {k:Nat} (hk:k≤(moW s r).length):MoOk (moW s r) ⟨s.par,s.treas,s.purses,s.emer,moL s,r.done⟩ (moX s r k) k :=
 moK_ok (mo_0 h r) (moW_in r).1 (moW_in r).2 k hk
theorem mok_ti {s:StD} {D:Nat} (h:TkI s D) (r:RepD) {k:Nat} (hk:k≤(moW s r).length):TkI (moSk s r k) D:=by
 have hx:=mo_k h r hk
 obtain ⟨a1,a2,a3,a4,a5,a6,a7⟩:=h.ok.all
 obtain ⟨b1,b2,b3,b4,b5,b6⟩:=h.parts
 have hs:=h.sum
 have hm:=h.mon
 have et:tot (moX s r k).ps+(moX s r k).tr=tot s.purses+s.treas:=hx.t
 have hp0:=hx.p
 have hpp:=tot_nonneg hx.p
 have htr:=hx.tr
 have hp:(moSk s r k).purses.length=s.purses.length:=hx.l2
 have hn:(moX s r k).mo.length=s.motions.length:=by
  have:=hx.n
  rw [this]
  exact List.length_map _
 refine ⟨hx.r,StOk.set h.ok hx.ok a1 a2 a3 a4 (by omega) a6 a7,h.ep,⟨h.be.m,fun x hx=>by rw [hp]; exact h.be.o x hx,hx.p⟩,h.ml,by rw [hp]; exact h.pl,h.en,h.ex,fun x hx=>by rw [hp]; exact h.dd x hx,h.dn,fun d hd=>by rw [hp]; exact h.oo d hd,h.on,fun m hm=>by rw [hp]; exact hx.m m hm,by show (moX s r k).mo.length≤32; rw [hn]; exact h.mn,?_,h.top⟩
 show tot (moX s r k).ps+tot (s.members.map MemD.bal)+dTot s.dues+tot (s.pool.map DepD.amt)+(moX s r k).tr+s.burn=s.gen+s.mint
 omega
theorem ajk_ti {s:StD} {D:Nat} (h:TkI s D) {k:Nat} (hk:k≤s.members.length):TkI (ajSk s k) D:=by
 obtain ⟨b1,b2,b3,b4,b5,b6⟩:=h.parts
 have hs:=h.sum
 have hm:=h.mon
 have hb:BeOk s.members s.purses:=h.be.ok (by omega)
 have h1:=clN_ok (q:=s.par) h.ok.p (x:=(s.members,s.purses)) hb k hk
 have h2:=clN_len s.par (s.members,s.purses) k
 have h3:=clN_tot (q:=s.par) h.ok.p (x:=(s.members,s.purses)) hb k hk
 have h4:=clN_up s.par (s.members,s.purses) k hk
 have l1:(ajSk s k).members.length=s.members.length:=h2.1
 have l2:(ajSk s k).purses.length=s.purses.length:=h2.2
 have hst:∀ j,(gr zeroM (ajSk s k).members j).status=(gr zeroM s.members j).status:=fun j=>by
  show (gr zeroM (clN s.par (s.members,s.purses) k).1 j).status=_
  rw [h4,upN_gr _ _ k hk j]
  split
  ·rfl
  ·rfl
 refine ⟨h.r,⟨h.ok.p,h.ok.u,h.ok.n⟩,h.ep,⟨h1.m,h1.o,h1.p⟩,by rw [l1]; exact h.ml,by rw [l2]; exact h.pl,row_eq h.en l1 (fun j _=>by rw [hst]),row_eq h.ex l1 (fun j _=>by rw [hst]),fun x hx=>by rw [l2]; exact h.dd x hx,h.dn,fun d hd=>by rw [l1,l2]; exact h.oo d hd,h.on,fun m hm=>by rw [l2]; exact h.mm m hm,h.mn,?_,h.top⟩
 have e:tot (ajSk s k).purses+tot ((ajSk s k).members.map MemD.bal)=tot s.purses+tot (s.members.map MemD.bal):=h3
 show tot (ajSk s k).purses+tot ((ajSk s k).members.map MemD.bal)+dTot s.dues+tot (s.pool.map DepD.amt)+s.treas+s.burn=s.gen+s.mint
 omega
variable {L:Own} {h:PH} {K:PK}
theorem Sl.drop {h:PH} {a:Option Addr} {n c sz:Nat} {cs:List Value} (hs:Sl h (.slice a n c) n sz cs) (i:Nat) (hi:i≤n):Sl h (.slice (cutA a c i sz) (n-i) (c-i)) (n-i) sz (cs.drop (i*sz)):=by
 obtain ⟨h1,a',c',h2,h3,h4,h5,h6,h7⟩:=hs
 injection h2 with e1 e2 e3
 subst e1; subst e3
 refine ⟨by rw [List.length_drop,h1,Nat.sub_mul],cutA a c i sz,c-i,rfl,by omega,by omega,by omega,fun hn=>?_,fun m v hm=>?_⟩
 ·unfold cutA at hn
  split at hn
  ·omega
  ·cases a with
   | none=>have:=h6 rfl; omega
   | some q=>simp at hn
 ·rw [List.getElem?_drop] at hm
  have hlt:=(List.getElem?_eq_some_iff.1 hm).1
  have hne:¬ c=i:=fun e=>by
   have:n=i:=by omega
   subst this
   omega
  have:=h7 (i*sz+m) v hm
  unfold cutA
  rw [if_neg hne]
  cases a with
  | none=>simp [elemCell] at this
  | some q =>
   simp only [elemCell,Option.map_some,add_add'] at this ⊢
   exact this
end Go.X
