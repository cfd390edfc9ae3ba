/- Lemmas and contracts. Conditions: as each says. -/
import Derived.Laws.StructEq
import Derived.Lib.Hide
import Derived.Maps.AppendAt
import Derived.Test.YtllhopbilpdpkaaGreatQ02
import Derived.Test.YtllhopbilpdpkaaGreatQ03
set_option linter.unusedVariables false
set_option linter.unusedSimpArgs false
set_option maxHeartbeats 12800000
set_option maxRecDepth 20000
namespace Go.X
open Go.RowKit Go.Bl
def PH.le (h h':PH):Prop:=∀b o v,h b o=some v->h' b o=some v
theorem PH.le_refl (h:PH):PH.le h h:=fun _ _ _ hv=>hv
theorem PH.le_trans {a b c:PH}(x:PH.le a b)(y:PH.le b c):PH.le a c:=fun p o v hv=>y p o v (x p o v hv)
theorem PH.le.trans {a b c:PH}(x:PH.le a b)(y:PH.le b c):PH.le a c:=PH.le_trans x y
theorem Yr {h h':PH}(le:PH.le h h'){a:Option Addr}{j:Nat}{v:Value}(hv:Z9 h a j=some v):Z9 h' a j=some v:=by
 cases a with
 | none=>simp [Z9]at hv
 | some q =>
  simp only[Z9]at hv ⊢;split at hv
  ·rename_i hs;rw[if_pos hs];exact le _ _ _ hv
  ·cases hv
def Sl (h:PH)(v:Value)(n sz:Nat)(cs:List Value):Prop :=
 cs.length=n*sz/\∃a cap,v = .slice a n cap/\n<=cap/\cap<=9223372036854775807/\n<=9223372036854775807/\(a=none->cap=0)/\∀(j:Nat) c,cs[j]?=some c->Z9 h a j=some c
def Ints (h:PH)(k:IntKind)(v:Value)(zs:List Int):Prop:=Sl h v zs.length 1 (zs.map (Value.int k))/\∀z∈zs,k.min<=z/\z<=k.max
theorem Sl.up {h h':PH}(le:PH.le h h'){v:Value}{n sz:Nat}{cs:List Value}(hs:Sl h v n sz cs):Sl h' v n sz cs:=by
 obtain⟨h1,a,cap,h2,h3,h4,h4',h5,h6⟩:=hs;exact⟨h1,a,cap,h2,h3,h4,h4',h5,fun j c hj=>Yr le (h6 j c hj)⟩
theorem Ints.up {h h':PH}(le:PH.le h h'){k:IntKind}{v:Value}{zs:List Int}(hs:Ints h k v zs):Ints h' k v zs:=⟨hs.1.up le,hs.2⟩
theorem Ints.open {h:PH}{k:IntKind}{v:Value}{zs:List Int}(hs:Ints h k v zs) :
  ∃a cap,v = .slice a zs.length cap/\zs.length<=cap/\zs.length<=9223372036854775807/\(a=none->cap=0)/\∀j,j<zs.length->Z9 h a j=some (.int k (at0 zs j)):=by
 obtain⟨⟨_,a,cap,h2,h3,h4,h4',h5,h6⟩,_⟩:=hs;exact⟨a,cap,h2,h3,h4',h5,fun j hj=>h6 j _ (by simp [at0,List.getD,hj])⟩
theorem Ints.range {h:PH}{k:IntKind}{v:Value}{zs:List Int}(hs:Ints h k v zs)(i:Nat)(hi:i<zs.length):k.min<=at0 zs i/\at0 zs i<=k.max:=hs.2 _ (by simp [at0,List.getD,hi])
theorem Ints.byte {h:PH}{v:Value}{zs:List Int}(hs:Ints h .u8 v zs)(i:Nat):0<=at0 zs i/\at0 zs i<=255:=by
 by_cases hi:i<zs.length
 ·have:=hs.range i hi;rwa [show IntKind.u8.min=0 from qh,show IntKind.u8.max=255 from qh]at this
 ·simp [U7 (Nat.le_of_not_lt hi)]
theorem Ints.word {h:PH}{v:Value}{zs:List Int}(hs:Ints h .u64 v zs)(i:Nat):0<=at0 zs i/\at0 zs i<=18446744073709551615:=by
 by_cases hi:i<zs.length
 ·have:=hs.range i hi;rwa [show IntKind.u64.min=0 from qh,show IntKind.u64.max=18446744073709551615 from qh]at this
 ·simp [U7 (Nat.le_of_not_lt hi)]
theorem Ints.num {h:PH}{v:Value}{zs:List Int}(hs:Ints h .i64 v zs)(i:Nat) : -9223372036854775808<=at0 zs i/\at0 zs i<=9223372036854775807:=by
 by_cases hi:i<zs.length
 ·have:=hs.range i hi;rwa [show IntKind.i64.min = -9223372036854775808 from qh,show IntKind.i64.max=9223372036854775807 from qh]at this
 ·simp [U7 (Nat.le_of_not_lt hi)]
variable {P:Program}
def ovs:Option (Nat×Nat)->Nat->Value
 | none,_ => .slice none 0 0
 | some (b,cap),n => .slice (some ⟨b,0,none⟩) n cap
def oent (e sz:Nat)(o:Option (Nat×Nat))(xs:List Value)(L:Own):Own :=
 match o with
 | none=>L
 | some (b,cap)=>⟨b,e,xs,cap*sz⟩::L
def okO (o:Option (Nat×Nat))(n:Nat):Prop :=
 match o with
 | none=>n=0
 | some p=>n<=p.2/\p.2<=maxLen
def apO (o:Option (Nat×Nat))(L:Own)(h:PH):Prop :=
 match o with
 | none=>True
 | some p=>ZS p.1 L/\h p.1=noC
def Src (L:Own)(h:PH)(v:Value)(m:Nat)(xs:List Value):Prop :=
 (v = .slice none 0 0/\m=0/\xs=[])\/∃a c,v = .slice (some a) m c/\∀W,Zo L h W->∀(j:Nat) u,xs[j]?=some u->W.cell? (a.add j)=some u
theorem Src.known {L:Own}{h:PH}{v:Value}{n sz:Nat}{cs:List Value}(hs:Sl h v n sz cs):Src L h v n cs:=by
 obtain⟨h1,a,cap,rfl,h3,h4,h4',h5,h6⟩:=hs
 cases a with
 | none =>
  have hc:=h5 rfl;have hn:n=0:=qf;subst hc;subst hn;exact Or.inl ⟨rfl,rfl,List.eq_nil_of_length_eq_zero qO⟩
 | some q =>
  refine Or.inr ⟨q,cap,rfl,fun W hg j u hj=>?_⟩;have:=h6 j u hj;simp only[Z9]at this;split at this
  ·rename_i hs;have:=hg.sub _ _ _ this;rw[show q.add j=⟨(q.add j).block,(q.add j).off,none⟩ by rw[<- hs]];exact this
  ·cases this
theorem Src.own {L:Own}{h:PH}{b t m c cap:Nat}{xs:List Value}(hm:(⟨b,t,xs,cap⟩:Zn)∈L)(hT:t≠4294967295:=by first|decide|omega):Src L h (.slice (some ⟨b,0,none⟩) m c) m xs:=by
 refine Or.inr ⟨_,c,rfl,fun W hg j u hj=>?_⟩;obtain⟨full,h1,_,h3⟩:=(hg.own _ hm).cells hT;rw[Ud];have:=h3 j u hj;simp only[World.cell?];simp only at h1;rw[h1]
 simpa using this
theorem Zbu {b:Nat}:∀ {L:Own},(∀e∈L,e.b≠b)->ZS b L
 | [],_=>trivial
 | e::L,h=>⟨h e qj,Zbu fun x hx=>h x wE⟩
theorem GG {b:Nat}:∀ {L:Own},ZS b L->∀e∈L,e.b≠b
 | [],_,e,he=>by simp at he
 | x::L,h,e,he=>by
  rcases List.mem_cons.1 he with rfl|he
  ·exact h.1
  ·exact GG h.2 e he
def Ap:Own->PH->Prop
 | [],_=>True
 | e::L,h=>h e.b=noC/\Ap L h
theorem Ap.of {h:PH}:∀ {L:Own},(∀e∈L,h e.b=noC)->Ap L h
 | [],_=>trivial
 | e::L,ha=>⟨ha e qj,Ap.of fun x hx=>ha x wE⟩
theorem Zb.ap {f:FuncId}{args:List Value}{L:Own}{h:PH}{K:PK}(hs:Zb P f args L h fun v L' h'=>Ap L' h'->K v L' h'):Zb P f args L h K :=
 ⟨hs.1,fun W hg=>(hs.2 W hg).mono fun _ _ ⟨r,L',h',e,k,st⟩=>⟨r,L',h',e,k (Ap.of st.1.apart),st⟩⟩
theorem ZV {o:Option (Nat×Nat)}{x:Zn}{L:Own}{h:PH}(ha:apO o (x::L) h):apO o L h:=by
 cases o with
 | none=>trivial
 | some p=>exact⟨ha.1.2,ha.2⟩
def apB (o:Option (Nat×Nat))(b:Nat):Prop :=
 match o with
 | none=>True
 | some p=>p.1≠b
theorem apO.head {o:Option (Nat×Nat)}{x:Zn}{L:Own}{h:PH}(ha:apO o (x::L) h):apB o x.b:=by
 cases o with
 | none=>trivial
 | some p=>exact fun e=>ha.1.1 e.symm
theorem ZX {e sz:Nat}{o:Option (Nat×Nat)}{b:Nat}(ha:apB o b)(xs:List Value)(L:Own)(k:Nat)(vs:List Value)(K:Own->Prop)(t:Zm K):Zci (oent e sz o xs L) b k vs K t=Zci L b k vs fun L'=>K (oent e sz o xs L'):=by
 cases o with
 | none=>rfl
 | some p=>exact Zll b p.1 e k (p.2*sz) xs vs K ha
theorem ZR {e sz:Nat}{o:Option (Nat×Nat)}{b:Nat}(ha:apB o b)(xs:List Value)(L:Own)(k:Nat)(K:Value->Prop)(t:Zm K):Zch (oent e sz o xs L) b k K t=Zch L b k K:=by
 cases o with
 | none=>rfl
 | some p=>exact Zff b p.1 e k (p.2*sz) xs ha
@[go_sem ↓ high] theorem Yrd (o:Option (Nat×Nat))(n:Nat):(ovs o n).cells=#[ovs o n]:=by cases o<;>rfl
@[go_sem] theorem Yai (o:Option (Nat×Nat))(n:Nat):(ovs o n).oneCell'=true:=by cases o<;>rfl
theorem Vd (k:IntKind)(zs:List Int)(o:Nat)(K:Value->Prop)(t:Zm K)(ho:o<zs.length):VE (zs.map (Value.int k)) o K t=K (.int k (at0 zs o)):=Ycz k zs o ho
theorem Ints.take {h:PH}{k:IntKind}{a:Option Addr}{n c:Nat}{zs:List Int}(hs:Ints h k (.slice a n c) zs)(j:Nat)(hj:j<=zs.length):Ints h k (.slice a j c) (zs.take j):=by
 obtain⟨⟨h1,a',c',h2,h3,h4,h5,h6,h7⟩,hr⟩:=hs;injection h2 with e1 e2 e3
 subst e1;subst e3;have hl:(zs.take j).length=j:=by simp [hj]
 refine⟨⟨qj,a,c,by rw[hl],qf,h4,qf,h6,fun i v hi=>h7 i v ?_⟩,fun z hz=>hr z (List.mem_of_mem_take hz)⟩;rw[List.map_take,List.getElem?_take]at hi;split at hi
 ·exact hi
 ·cases hi
theorem ZZ {t ty e sz bytes:Nat}{ti:TI}{z:List Value}(ht:P.underlying t=some (.slice e))(hti:tI P e=some ti)(hz1:ti.size=sz)(hz2:ti.bytes=bytes)(hz3:ti.zero=z)(hz4:z.length=sz)(hsz:0<sz)
  (L1 L2:Own) {h:PH} {K:PK} (o:Option (Nat×Nat)) (n:Nat) (xs:List Value) {src:Value} {m:Nat} {news:List Value}
  (ho:okO o n) (hl:xs.length=n*sz) (hs:Src (L1++oent e sz o xs L2) h src m news) (hnl:news.length=m*sz) (h1:∀u∈news,u.oneCell'=true)
  (h63:n+m<=maxLen) (hb:(n+m)*bytes<=140737488355328)
  (hk:∀o',okO o' (n+m)->apO o' (L1++L2) h->(o'=none↔o=none/\m=0)->K (ovs o' (n+m)) (L1++oent e sz o' (xs++news) L2) h) (heT:e≠4294967295:=by first|decide|omega) :
  Zii P (Builtin.append_ #[t,t] ty #[ovs o n,src]) (L1++oent e sz o xs L2) h K:=by
 intro W hg;obtain⟨i,d,zv,g1,g2,g3,rfl⟩:=Vb hti;have hown:W.ownsRow 0 e sz (ovs o n) n xs:=by
  refine⟨hl,?_⟩
  cases o with
  | none=>exact Or.inl ⟨rfl,ho⟩
  | some p =>
   obtain⟨b,cap⟩:=p;obtain⟨full,f1,f2,f3⟩:=(hg.own ⟨b,e,xs,cap*sz⟩ (by simp [oent])).cells heT;refine Or.inr ⟨b,cap,full,rfl,Nat.zero_le _,f1,ho.1,ho.2,f2,?_⟩;apply List.ext_getElem?;intro j;rw[List.getElem?_take,<- hl];split
   ·rename_i hj;have:=f3 j xs[j] (by simp [hj]);simp [hj]
    simpa using this
   ·rename_i hj;rw[List.getElem?_eq_none qf]
 have hL:∀x∈L1++L2,x∈L1++oent e sz o xs L2:=by
  intro x hx
  cases o with
  | none=>exact hx
  | some p =>
   rcases List.mem_append.1 hx with h|h
   ·exact List.mem_append.2 (Or.inl h)
   ·exact List.mem_append.2 (Or.inr (List.mem_cons_of_mem _ h))
 have hnd:((L1++L2).map Zn.b).Nodup/\∀b cap,o=some (b,cap)->∀x∈L1++L2,x.b≠b:=by
  have h0:=hg.nodup
  cases o with
  | none=>exact⟨h0,(fun b cap h=>qL)⟩
  | some p =>
   simp only[oent,List.map_append,List.map_cons]at h0 ⊢;have h2:=List.nodup_append.1 h0;have h3:=List.nodup_cons.1 h2.2.1;refine⟨List.nodup_append.2 ⟨h2.1,h3.2,fun a ha b hb=>h2.2.2 a ha b (List.mem_cons_of_mem _ hb)⟩,fun b cap hp x hx hxb=>?_⟩;injection hp with hp
   subst hp;rcases List.mem_append.1 hx with h|h
   ·exact h2.2.2 x.b (List.mem_map_of_mem h) b qj hxb
   ·exact h3.1 (by simp only;rw[<- hxb];exact List.mem_map_of_mem h)
 have fini:∀(v':Value) (W':World),W'.ownsRow 0 e sz v' (n+m) (xs++news)->W.grownBy W' (ovs o n).ownBlock->(v' = .slice none 0 0↔ovs o n = .slice none 0 0/\m=0) ->
   (v'.ownBlock=(ovs o n).ownBlock\/v'.ownBlock=some W.heap.size)->∃L' h',K v' L' h'/\Step (L1++oent e sz o xs L2) W L' h' W':=by
  intro v' W' hown' hgr hnil hblk;have hsame:∀x∈L1++L2,W'.heap[x.b]?=W.heap[x.b]?:=by
   intro x hx;refine hgr.block x.b (Zba hg (hL x hx)) fun hh=>?_
   cases o with
   | none=>simp [ovs,Value.ownBlock]at hh
   | some p=>simp [ovs,Value.ownBlock]at hh;exact hnd.2 p.1 p.2 rfl x hx hh
  have hsub:∀b o' v,h b o'=some v->W'.cell? ⟨b,o',none⟩=some v:=by
   intro b o' v hv;have hlt:=Zbo hg hv;have hb':W'.heap[b]?=W.heap[b]?:=by
    refine hgr.block b hlt fun hh=>?_
    cases o with
    | none=>simp [ovs,Value.ownBlock]at hh
    | some p =>
     simp [ovs,Value.ownBlock]at hh;have:=hg.apart ⟨p.1,e,xs,p.2*sz⟩ (by simp [oent]);simp only at this;rw[hh,this]at hv;cases hv
   rw[World.cell?_of_block (w:=W) (a:=⟨b,o',none⟩) hb'];exact hg.sub b o' v hv
  have hnone:(ovs o n = .slice none 0 0)↔o=none:=by
   cases o with
   | none=>simp [ovs]
   | some p=>simp [ovs]
  rcases hown'.2 with⟨hv,hn0⟩ | ⟨g,cap,cur,hv,_,f1,f2,f3,f4,f5⟩
  ·have h2:=hnil.1 hv;have ho':o=none:=hnone.1 h2.1;subst ho';refine⟨L1++L2,h,?_,⟨⟨hsub,fun x hx=>?_,hnd.1,fun x hx=>hg.apart x (hL x hx)⟩,⟨hgr.os,hgr.tape,hgr.output,hgr.size,fun k hk hM=>hgr.block k hk (by simp [ovs,Value.ownBlock])⟩,fun x hx=>Or.inl (List.mem_map_of_mem hx)⟩⟩
   ·have:=hk none hn0 trivial ⟨fun _=>⟨rfl,h2.2⟩,fun _=>rfl⟩;rw[hv];exact this
   ·rw[hsame x hx];exact hg.own x (hL x hx)
  ·have hap:∀x∈L1++L2,x.b≠g:=by
    intro x hx;have hlt:=Zba hg (hL x hx);rcases hblk with hb1|hb1
    ·rw[hv]at hb1
     cases o with
     | none=>simp [ovs,Value.ownBlock]at hb1
     | some p=>simp [ovs,Value.ownBlock]at hb1;rw[hb1];exact hnd.2 p.1 p.2 rfl x hx
    ·rw[hv]at hb1;simp [Value.ownBlock]at hb1;omega
   have hnc:h g=noC:=by
    rcases hblk with hb1|hb1
    ·rw[hv]at hb1
     cases o with
     | none=>simp [ovs,Value.ownBlock]at hb1
     | some p=>simp [ovs,Value.ownBlock]at hb1;rw[hb1];exact hg.apart ⟨p.1,e,xs,p.2*sz⟩ (by simp [oent])
    ·rw[hv]at hb1;simp [Value.ownBlock]at hb1
     funext o'
     cases hh:h g o' with
     | none=>rfl
     | some v=>have:=Zbo hg hh;omega
   have hgM:g∈(L1++oent e sz o xs L2).map Zn.b\/W.heap.size<=g:=by
    rcases hblk with hb1|hb1
    ·rw[hv]at hb1
     cases o with
     | none=>simp [ovs,Value.ownBlock]at hb1
     | some p=>simp [ovs,Value.ownBlock]at hb1;left;simp [oent,hb1]
    ·rw[hv]at hb1;simp [Value.ownBlock]at hb1;right;omega
   have hmem:∀x,x∈L1++oent e sz (some (g,cap)) (xs++news) L2->x=⟨g,e,xs++news,cap*sz⟩\/x∈L1++L2:=by
    intro x hx;simp only[oent]at hx;rcases List.mem_append.1 hx with h|h
    ·exact Or.inr (List.mem_append.2 (Or.inl h))
    ·rcases List.mem_cons.1 h with h|h
     ·exact Or.inl h
     ·exact Or.inr (List.mem_append.2 (Or.inr h))
   refine⟨L1++oent e sz (some (g,cap)) (xs++news) L2,h,?_,⟨⟨hsub,fun x hx=>?_,?_,fun x hx=>?_⟩,⟨hgr.os,hgr.tape,hgr.output,hgr.size,fun k hk hM=>hgr.block k hk ?_⟩,fun x hx=>?_⟩⟩
   ·have:=hk (some (g,cap)) ⟨f2,f3⟩ ⟨Zbu hap,hnc⟩ ⟨(fun h=>qL),fun h=>absurd (hv.symm.trans (hnil.2 ⟨hnone.2 h.1,h.2⟩)) qj⟩;rw[hv];exact this
   ·rcases hmem x hx with rfl|hx'
    ·refine .mk heT ⟨cur,f1,f4,fun j v hj=>?_⟩;simp only at hj;rw[<- f5,List.getElem?_take]at hj;split at hj
     ·simpa using hj
     ·cases hj
    ·rw[hsame x hx'];exact hg.own x (hL x hx')
   ·have h2:=List.nodup_append.1 (by simpa using hnd.1:(L1.map Zn.b++L2.map Zn.b).Nodup);simp only[oent,List.map_append,List.map_cons];refine List.nodup_append.2 ⟨h2.1,List.nodup_cons.2 ⟨fun hm=>?_,h2.2.1⟩,fun a ha b hb hab=>?_⟩
    ·obtain⟨x,hx,hxb⟩:=List.mem_map.1 hm;exact hap x (List.mem_append.2 (Or.inr hx)) hxb
    ·rcases List.mem_cons.1 hb with rfl|hb
     ·obtain⟨x,hx,hxb⟩:=List.mem_map.1 ha;exact hap x (List.mem_append.2 (Or.inl hx)) (by rw[hxb,hab])
     ·exact h2.2.2 a ha b hb hab
   ·rcases hmem x hx with rfl|hx'
    ·exact hnc
    ·exact hg.apart x (hL x hx')
   ·intro hh
    cases o with
    | none=>simp [ovs,Value.ownBlock]at hh
    | some p =>
     simp [ovs,Value.ownBlock]at hh;exact hM (by simp [oent,hh])
   ·rcases hmem x hx with rfl|hx'
    ·exact hgM
    ·exact Or.inl (List.mem_map_of_mem (hL x hx'))
 have hzz:i.zero=some zv:=g3;have hzsz:zv.cells.size=sz:=by
  have:zv.cells.toList.length=sz:=by simp only at hz3;rw[hz3];exact hz4
  simpa using this
 rcases hs with⟨rfl,rfl,rfl⟩ | ⟨a,c,rfl,hcells⟩
 ·have hr:=run_append_owned_none (P:=P) W 0 t ty e i sz ht g1 (ovs o n) n xs hown;obtain⟨L',h',hk',st⟩:=fini (ovs o n) W (by simpa using hown) ⟨rfl,rfl,rfl,Nat.le_refl _,fun _ _ _=>rfl⟩ qj (Or.inl rfl);exact⟨_,L',h',W,hr,hk',st⟩
 ·obtain⟨v',W',hr,q1,q2,q3,q4⟩:=run_append_own_at (P:=P) W 0 t ty e i zv sz bytes ht g1 hzz hz1 hz2 hzsz hsz (ovs o n) n xs hown a m c news hnl (hcells W hg) h1 h63 hb (Nat.zero_le _);obtain⟨L',h',hk',st⟩:=fini v' W' q1 q2 q3 q4;exact⟨v',L',h',W',hr,hk',st⟩
def pub (h:PH)(b:Nat)(cs:List Value):PH:=fun b' o=>if b'=b then cs[o]? else h b' o
theorem Zgp (b t cap:Nat)(cs:List Value)(L:Own)(h:PH)(heT:t≠4294967295):Za (⟨b,t,cs,cap⟩::L) h L (pub h b cs):=by
 intro W hg;have hnd:=hg.nodup;simp only[List.map_cons,List.nodup_cons]at hnd;have hne:∀e∈L,e.b≠b:=fun e he hb=>hnd.1 (by rw[<- hb];exact List.mem_map_of_mem he);refine⟨⟨fun b' o v hv=>?_,fun e he=>hg.own e (by simp [he]),hnd.2,fun e he=>?_⟩,fun e he=>by simp;exact Or.inr ⟨e,he,rfl⟩⟩
 ·simp only[pub]at hv;split at hv
  ·rename_i hb;subst hb;obtain⟨full,f1,_,f3⟩:=(hg.own ⟨b',t,cs,cap⟩ qj).cells heT;have:=f3 o v hv;simp only[World.cell?];simp only at f1;rw[f1]
   simpa using this
  ·exact hg.sub b' o v hv
 ·funext o
  simp only[pub];rw[if_neg (hne e he)];exact congrFun (hg.apart e (by simp [he])) o
theorem GO {h:PH}{b:Nat}(hb:h b=noC)(cs:List Value):PH.le h (pub h b cs):=by
 intro b' o v hv;simp only[pub];split
 ·rename_i e;rw[e,hb]at hv;cases hv
 ·exact hv
def Jh (h:PH)(o:Option (Nat×Nat))(xs:List Value):PH :=
 match o with
 | none=>h
 | some p=>pub h p.1 xs
theorem WE {h:PH}{sz n:Nat}{o:Option (Nat×Nat)}{xs:List Value}(ho:okO o n)(hl:xs.length=n*sz)(hn:n<=9223372036854775807) :
  Sl (Jh h o xs) (ovs o n) n sz xs:=by
 cases o with
 | none =>
  have h0:n=0:=ho;subst h0;have hx:xs=[]:=List.eq_nil_of_length_eq_zero (by simpa using hl);subst hx;exact⟨hl,none,0,rfl,Nat.le_refl _,qh,qh,fun _=>rfl,fun j c hj=>by simp at hj⟩
 | some p =>
  obtain⟨b,cap⟩:=p;refine⟨hl,_,cap,rfl,ho.1,by have:=ho.2;simpa [maxLen] using this,hn,fun h=>qL,fun j c hj=>?_⟩;simp [Z9,Ud,Jh,pub,hj]
theorem Zb.weaken {f:FuncId}{args:List Value}{L L':Own}{h h':PH}{K:PK}(hd:Za L h L' h')(hs:Zb P f args L' h' K):Zb P f args L h K:=by
 refine⟨hs.1,fun W hg=>?_⟩;obtain⟨g,f'⟩:=hd W hg;have hsub:∀b∈L'.map Zn.b,b∈L.map Zn.b:=by
  intro b hb;obtain⟨e,he,rfl⟩:=List.mem_map.1 hb;exact f' e he
 refine(hs.2 W g).mono fun e W' hh=>?_;obtain⟨r,L2,h2,e1,k,g2,kp,fr⟩:=hh;exact⟨r,L2,h2,e1,k,g2,⟨kp.os,kp.tape,kp.output,kp.size,fun i hi hM=>kp.block i hi fun hm=>hM (hsub i hm)⟩,fun e he=>(fr e he).imp (hsub _) id⟩
theorem YG {e sz:Nat}(o:Option (Nat×Nat))(xs:List Value)(L:Own)(h:PH)(heT:e≠4294967295):Za (oent e sz o xs L) h L (Jh h o xs):=by
 cases o with
 | none=>exact Za.refl L h
 | some p=>exact Zgp _ _ _ _ _ _ heT
theorem YL {L:Own}{h:PH}{o:Option (Nat×Nat)}(ha:apO o L h)(xs:List Value):PH.le h (Jh h o xs):=by
 cases o with
 | none=>exact PH.le_refl h
 | some p=>exact GO ha.2 xs
theorem Yv {e sz n:Nat}{o:Option (Nat×Nat)}{xs:List Value}{L L0:Own}{h:PH}{K:PK}{v:Value}(ho:okO o n)(hl:xs.length=n*sz)(hn:n<=9223372036854775807)(ha:apO o L0 h)
  (hk:∀h',PH.le h h'->Sl h' (ovs o n) n sz xs->fin K v L h') (heT:e≠4294967295:=by first|decide|omega):fin K v (oent e sz o xs L) h:=by
 obtain⟨L',h',hd,hk⟩:=hk _ (YL ha xs) (WE ho hl hn);exact⟨L',h',(YG o xs L h heT).trans hd,hk⟩
theorem WT {e sz n:Nat}{o:Option (Nat×Nat)}{xs:List Value}{L L0:Own}{h:PH}{K:PK}{f:FuncId}{args:List Value}(ho:okO o n)(hl:xs.length=n*sz)(hn:n<=9223372036854775807)(ha:apO o L0 h)
  (hk:∀h',PH.le h h'->Sl h' (ovs o n) n sz xs->Zb P f args L h' K) (heT:e≠4294967295:=by first|decide|omega):Zb P f args (oent e sz o xs L) h K :=
 (hk _ (YL ha xs) (WE ho hl hn)).weaken (YG o xs L h heT)
theorem WJ (b t cap:Nat)(cs:List Value)(L1 L2:Own)(h:PH)(heT:t≠4294967295):Za (L1++⟨b,t,cs,cap⟩::L2) h (L1++L2) (pub h b cs):=by
 intro W hg;have hp:(L1++⟨b,t,cs,cap⟩::L2).Perm (⟨b,t,cs,cap⟩::(L1++L2)):=List.perm_middle;have hmem:∀e,e∈L1++⟨b,t,cs,cap⟩::L2↔e∈(⟨b,t,cs,cap⟩::(L1++L2):Own):=fun e=>hp.mem_iff;have hg2:Zo (⟨b,t,cs,cap⟩::(L1++L2)) h W:=⟨hg.sub,fun e he=>hg.own e ((hmem e).2 he),(hp.map Zn.b).nodup_iff.1 hg.nodup,fun e he=>hg.apart e ((hmem e).2 he)⟩
 obtain⟨g,f⟩:=Zgp b t cap cs (L1++L2) h heT W hg2;refine⟨g,fun e he=>?_⟩;have:=f e he;exact(hp.map Zn.b).mem_iff.2 this
theorem Ws {e sz n b cap:Nat}{xs:List Value}(L1:Own){L2:Own}{h:PH}{K:PK}{f:FuncId}{args:List Value}(ho:n<=cap/\cap<=maxLen)(hl:xs.length=n*sz)(hn:n<=9223372036854775807)(ha:h b=noC)
  (hk:∀h',PH.le h h'->Sl h' (.slice (some ⟨b,0,none⟩) n cap) n sz xs->(∀b',b'≠b->h' b'=h b')->Zb P f args (L1++L2) h' K) (heT:e≠4294967295:=by first|decide|omega):Zb P f args (L1++⟨b,e,xs,cap*sz⟩::L2) h K :=
 (hk _ (GO ha xs) (WE (o:=some (b,cap)) ho hl hn) (fun b' hb=>by funext o;simp [pub,hb])).weaken (WJ b e (cap*sz) xs L1 L2 h heT)
theorem Zkr {f:FuncId}{args:List Value}{x:Zn}{L:Own}{h:PH}{K:PK}(hs:Zb P f args L h K):Zb P f args (x::L) h K:=hs.weaken (Za.tail x L h)
theorem JH {t e:Nat}{ti:TI}{z:Value}(ht:P.underlying t=some (.slice e))(hti:tI P e=some ti)(hs:ti.size=1)(hz:ti.zero=[z])(kl kc:IntKind)(n:Int)(h0:0<=n)(hb:(ti.bytes:Int)*n<=281474976710656)(h63:n<=9223372036854775807)
  {K:TypeId->List Value->Nat->Nat->Prop} (hk:K e (List.replicate n.toNat z) n.toNat n.toNat):xMS P t (.int kl n) (.int kc n) K:=by
 obtain⟨i,d,zv,g1,g2,g3,rfl⟩:=Vb hti;simp only at hs hz hb;have hc:zv.cells=#[z]:=by apply Array.ext';simpa using hz
 refine⟨e,madeCells zv.cells (n.toNat*i.size),n.toNat,n.toNat,fun W=>run_make (P:=P) W t e i zv ht g1 g3 kl kc n n h0 (Int.le_refl _) hb h63,?_⟩;rw[hs,Nat.mul_one,hc,toList_madeCells_one];exact hk
theorem Za.perm {L L':Own}(h:PH)(hp:L.Perm L'):Za L h L' h:=fun W hg =>
 ⟨⟨hg.sub,fun e he=>hg.own e (hp.mem_iff.2 he),(hp.map Zn.b).nodup_iff.1 hg.nodup,fun e he=>hg.apart e (hp.mem_iff.2 he)⟩,fun e he=>List.mem_map_of_mem (hp.mem_iff.2 he)⟩
theorem Zku {f:FuncId}{args:List Value}{x:Zn}(L1:Own){L2:Own}{h:PH}{K:PK}(hs:Zb P f args (x::(L1++L2)) h K):Zb P f args (L1++x::L2) h K :=
 hs.weaken (Za.perm h List.perm_middle)
theorem Za.forget {L:Own}{h h':PH}(le:PH.le h h'):Za L h' L h:=fun W hg=>by
 refine⟨⟨fun b o v hv=>hg.sub b o v (le b o v hv),hg.own,hg.nodup,fun e he=>?_⟩,fun e he=>List.mem_map_of_mem he⟩
 funext o
 cases hh:h e.b o with
 | none=>rfl
 | some v =>
  have:=le _ _ _ hh;rw[hg.apart e he]at this
  cases this
theorem Zb.forget {f:FuncId}{args:List Value}{L:Own}{h:PH}{v:Value}(hs:Zb P f args L h fun v' L' h'=>v'=v/\L'=L/\PH.le h h'):Zb P f args L h fun v' L' h'=>v'=v/\L'=L/\h'=h :=
 ⟨hs.1,fun W hg=>(hs.2 W hg).mono fun e W' ⟨r,L',h',he,⟨hv,hL,hle⟩,st⟩=>by
  subst hL;obtain⟨g,f⟩:=Za.forget (L:=L') hle W' st.1
  exact⟨r,L',h,he,⟨hv,rfl,rfl⟩,⟨g,st.2.1,st.2.2⟩⟩⟩
theorem Zcz {f:FuncId}{args:List Value}{x a:Zn}{L:Own}{h:PH}{K:PK}(hs:Zb P f args (x::a::L) h K):Zb P f args (a::x::L) h K:=Zku [_] hs
theorem Zyb {f:FuncId}{args:List Value}{x a b:Zn}{L:Own}{h:PH}{K:PK}(hs:Zb P f args (x::a::b::L) h K):Zb P f args (a::b::x::L) h K:=Zku [_,_] hs
theorem Zoe {T e:Nat}(hT:P.underlying T=some (.pointer e))(a:Option Addr)(W:World):(Op.equal T (.pointer a) (.pointer none)).run P W = .ok a.isNone W:=by
 unfold Op.equal;rw[show Op.maxDepth=(Op.maxDepth-1)+1 by rfl,Op.equalIn]
 cases a<;>simp [underlying,hT]
theorem Znm {T e:Nat}(hT:P.underlying T=some (.pointer e))(x y:Operand)(a:Option Addr)(K:Value->Prop):VO P .eql T x y (.pointer a) (.pointer none) K=K (.bool a.isNone) :=
 Yw (fun W=>by simp [eqGuard,binOp,Zoe hT]) K
def Gk (a:Option Addr)(c i sz:Nat):Option Addr:=if c=i then a else a.map (·.add (i*sz))
theorem Zhc {T e sz by':Nat}(hT:tSh P T = .sl e sz by')(a:Option Addr)(n c:Nat)(k l:IntKind)(i j:Int)(h0:0<=i)(h1:i<=j)(h2:j<=(c:Int))(K:Value->Prop):xSl P T (.slice a n c) (some (.int k i)) (some (.int l j)) none K=K (.slice (Gk a c i.toNat sz) (j.toNat-i.toNat) (c-i.toNat)):=by
 unfold tSh at hT;split at hT
 ·rename_i e' hu;split at hT
  ·rename_i ii hi;refine Yw (fun W=>?_) K;injection hT with hT1 hT2 hT3
   subst hT2;have h3:i<=(j.toNat:Int):=qf;have h4:0<=j:=qf;simp [Instr.sliceAt,Instr.slice,Instr.sliceBounds,Instr.sliceBound,asIntOf,underlying,hu,YW hi,h0,h1,h2,h3,h4,Gk];intro hh;omega
  ·cases hT
 ·split at hT<;>cases hT
 ·cases hT
theorem Ints.part {h:PH}{k:IntKind}{a:Option Addr}{n c:Nat}{zs:List Int}(hs:Ints h k (.slice a n c) zs)(i j:Nat)(hij:i<=j)(hj:j<=zs.length):Ints h k (.slice (Gk a c i 1) (j-i) (c-i)) ((zs.drop i).take (j-i)):=by
 obtain⟨⟨h1,a',c',h2,h3,h4,h5,h6,h7⟩,hr⟩:=hs;injection h2 with e1 e2 e3
 subst e1;subst e3;have hl:((zs.drop i).take (j-i)).length=j-i:=by simp;omega
 refine⟨⟨qj,Gk a c i 1,c-i,by rw[hl],qf,qf,qf,fun hn=>?_,fun m v hm=>?_⟩,fun z hz=>hr z (List.mem_of_mem_drop (List.mem_of_mem_take hz))⟩
 ·unfold Gk at hn;split at hn
  ·omega
  ·cases a with
   | none=>have:=h6 rfl;omega
   | some q=>simp at hn
 ·rw[List.map_take,List.map_drop,List.getElem?_take]at hm;split at hm
  ·rename_i hmj;rw[List.getElem?_drop]at hm;have hne:¬c=i:=qf;have:=h7 (i+m) v hm;unfold Gk;rw[if_neg hne]
   cases a with
   | none=>simp [Z9]at this
   | some q =>
    simp only[Z9,Option.map_some,Nat.mul_one,Zqx]at this ⊢;exact this
  ·cases hm
@[go_sem ↓] theorem Zkv {ty:Nat}(ats:Array Nat)(k l:IntKind)(a b:Int)(L:Own)(h:PH)(K:PK):UO P .min ats ty [.int k a,.int l b] L h K=K (.int k (min a b)) L h:=by
 have:xMM P false ats ty [.int k a,.int l b] (fun r=>Jq r (fun r=>K r L h) ⟨⟩)=K (.int k (min a b)) L h:=by
  refine Yw (fun W=>?_) _;simp [Builtin.min_,Builtin.min2,Int.min_def];omega
 exact this
@[go_sem ↓] theorem Ywu (p:Addr)(K:Value->Prop)(t:Zm K):xNC P (.pointer (some p)) K t=K (.pointer (some p)):=by simp [xNC]
def Nd:Own->Prop
 | []=>True
 | e::L=>ZS e.b L/\Nd L
theorem Nd.of:∀ {L:Own},(L.map Zn.b).Nodup->Nd L
 | [],_=>trivial
 | e::L,hn=>by
  simp only[List.map_cons,List.nodup_cons]at hn;exact⟨Zbu fun x hx hb=>hn.1 (by rw[<- hb];exact List.mem_map_of_mem hx),Nd.of hn.2⟩
theorem Zbq {f:FuncId}{fn:Func}{c:Code}{rs:List ResultVar}{args:List Value}{L:Own}{h:PH}{K:PK}{nt:Nat}
  (hf : P.funcs[f]? = some fn) (hb : fn.body = some c) (hr : fn.results.toList = rs) (hnt : fn.ntmps = nt) (hm : P.follows .mixedOrders = true) (hname : (fn.name == "runtime.NumGoroutine") = false)
  (hw:wfC nt c=true) (hl:decide (args.length<=nt)=true) (hx:Ap L h->Nd L->xC P c (Ycu P rs K) (YT args 0) L h):Zb P f args L h K :=
 ⟨trivial,fun W hg=>(UW hf hb hr hnt hm hname hw hl (hx (Ap.of hg.apart) (Nd.of hg.nodup))).2 W hg⟩
theorem Z5 {o:Option (Nat×Nat)}{n:Nat}(ho:okO o n):∃a c,ovs o n = .slice a n c/\n<=c:=by
 cases o with
 | none=>have:n=0:=ho;subst this;exact⟨none,0,rfl,Nat.le_refl _⟩
 | some p=>obtain⟨b,cap⟩:=p;exact⟨_,_,rfl,ho.1⟩
theorem oent_perm {e sz:Nat}{o:Option (Nat×Nat)}{xs:List Value}{x:Zn}{L:Own}:(x::oent e sz o xs L).Perm (oent e sz o xs (x::L)):=by
 cases o with
 | none=>exact List.Perm.refl _
 | some p=>exact List.Perm.swap _ _ _
theorem Ydd {K:PK}{v:Value}{L L':Own}{h:PH}(hp:L.Perm L')(hf:fin K v L' h):fin K v L h:=by
 obtain⟨L2,h2,hd,hk⟩:=hf;exact⟨L2,h2,(Za.perm h hp).trans hd,hk⟩
theorem Zb.apn {f:FuncId}{args:List Value}{L:Own}{h:PH}{K:PK}(hs:Zb P f args L h fun v L' h'=>Ap L' h'->Nd L'->K v L' h'):Zb P f args L h K :=
 ⟨hs.1,fun W hg=>(hs.2 W hg).mono fun _ _ ⟨r,L',h',e,k,st⟩=>⟨r,L',h',e,k (Ap.of st.1.apart) (Nd.of st.1.nodup),st⟩⟩
@[go_sem ↓] theorem xSt_ovs {L:Own}(g:Bool)(z:List Value)(by' b k:Nat)(K:Own->Prop)(o:Option (Nat×Nat))(n:Nat):xSt ⟨1,g,z,by'⟩ L (some ⟨b,k,none⟩) (ovs o n) K=Zci L b k [ovs o n] K:=Zhn g z by' b k _ K (Yai o n)
theorem Za.oent (e sz:Nat)(o:Option (Nat×Nat))(xs:List Value)(L:Own)(h:PH):Za (oent e sz o xs L) h L h:=by
 cases o with
 | none=>exact Za.refl _ _
 | some p=>exact Za.tail _ _ _
theorem Yl (b c n:Nat):ovs (some (b,c)) n = .slice (some ⟨b,0,none⟩) n c:=rfl
theorem Z7 (e sz b c:Nat)(xs:List Value)(L:Own):oent e sz (some (b,c)) xs L=⟨b,e,xs,c*sz⟩::L:=rfl
theorem Za.mem {x:Zn}{L:Own}{h:PH}(hx:x∈L):Za L h [x] h:=fun W hg =>
 ⟨⟨hg.sub,fun e he=>by rw[List.mem_singleton.1 he];exact hg.own x hx,qj,fun e he=>by rw[List.mem_singleton.1 he];exact hg.apart x hx⟩,fun e he=>by rw[List.mem_singleton.1 he];exact List.mem_map_of_mem hx⟩
theorem Z6 {e sz:Nat}{o:Option (Nat×Nat)}{xs:List Value}(A:Own){L:Own}:(A++oent e sz o xs L).Perm (oent e sz o xs (A++L)):=by
 cases o with
 | none=>exact List.Perm.refl _
 | some p=>exact List.perm_middle
theorem UA {e sz n:Nat}{o:Option (Nat×Nat)}{xs:List Value}(A:Own){L:Own}{h:PH}{K:PK}{f:FuncId}{args:List Value}(ho:okO o n)(hl:xs.length=n*sz)(hn:n<=9223372036854775807)
  (hk:∀h',PH.le h h'->Sl h' (ovs o n) n sz xs->Zb P f args (A++L) h' K) (hc:UN P f) (heT:e≠4294967295:=by first|decide|omega):Zb P f args (A++oent e sz o xs L) h K :=
 ⟨trivial,fun W hg=>((WT (L0:=L) ho hl hn (by
   cases o with
   | none=>trivial
   | some p =>
    obtain⟨b,cap⟩:=p;refine⟨Zbu fun x hx hb=>?_,hg.apart ⟨b,e,xs,cap*sz⟩ (by simp [oent])⟩;have h0:=hg.nodup;simp only[oent,List.map_append,List.map_cons]at h0;have h3:=List.nodup_cons.1 (List.nodup_append.1 h0).2.1
    exact h3.1 (by have hb':x.b=b:=hb;rw[<- hb'];exact List.mem_map_of_mem hx)) hk).weaken (Za.perm h (Z6 A))).2 W hg⟩
theorem WC {K:PK}{v:Value}{e sz:Nat}{o:Option (Nat×Nat)}{xs:List Value}{L:Own}{h:PH}(hk:fin K v L h):fin K v (oent e sz o xs L) h:=by
 cases o with
 | none=>exact hk
 | some p=>exact ZO hk
def okF (P:Program):List Field->Nat->List IntKind->Bool
 | [],_,[]=>true
 | f :: fs, i, k :: ks => decide (f.name ≠ "_") && (f.offset == i) && (match P.underlying f.type with
  | some (.int k')=>k' == k
  | _=>false)&&okF P fs (i+1) ks
 | _,_,_=>false
theorem GJ (d:Nat)(w:World)(xs ys:Array Value):∀(fs:List Field) (i:Nat) (ks:List IntKind) (az bs:List Int),okF P fs i ks=true->az.length=ks.length->bs.length=ks.length ->
  (∀j:Nat,xs[i+j]?=(List.zipWith Value.int ks az)[j]?)->(∀j:Nat,ys[i+j]?=(List.zipWith Value.int ks bs)[j]?)->(Op.eqFields (d+1) xs ys fs).run P w = .ok (decide (az=bs)) w
 | [],i,[],az,bs,_,ha,hb,_,_=>by
  have:az=[]:=List.eq_nil_of_length_eq_zero ha;have:bs=[]:=List.eq_nil_of_length_eq_zero hb;subst az;subst bs;simp [Op.eqFields]
 | [],_,_::_,_,_,h,_,_,_,_=>by simp [okF]at h
 | _::_,_,[],_,_,h,_,_,_,_=>by simp [okF]at h
 | f::fs,i,k::ks,[],_,h,ha,_,_,_=>by simp at ha
 | f::fs,i,k::ks,_::_,[],h,_,hb,_,_=>by simp at hb
 | f::fs,i,k::ks,a::az,b::bs,h,ha,hb,hx,hy=>by
  simp only[okF,Bool.and_eq_true,decide_eq_true_eq,beq_iff_eq]at h;obtain⟨⟨⟨h1,h2⟩,h3⟩,h4⟩:=h
  cases hu:P.underlying f.type with
  | none=>rw[hu]at h3;cases h3
  | some u =>
   rw[hu]at h3
   cases u<;>try (cases h3)
   rename_i k';have hk:k'=k:=by simpa using h3
   subst hk;have hx0:=hx 0;have hy0:=hy 0;simp only[Nat.add_zero,List.zipWith_cons_cons,List.getElem?_cons_zero]at hx0 hy0;have hag:(isAgg f.type).run P w = .ok false w:=Jp hu w;have px:(part f.type xs f.offset).run P w = .ok (.int k' a) w:=by
    rw[h2];simp [part,hag,hx0]
   have py:(part f.type ys f.offset).run P w = .ok (.int k' b) w:=by
    rw[h2];simp [part,hag,hy0]
   have ih:=GJ d w xs ys fs (i+1) ks az bs h4 qP (by simpa using hb)
    (fun j=>by have:=hx (j+1);rw[show i+1+j=i+(j+1) from qf];simpa using this)
    (fun j=>by have:=hy (j+1);rw[show i+1+j=i+(j+1) from qf];simpa using this)
   rw[Op.eqFields,if_pos h1];simp only[Sem.run_bind,px,py,Result.andThen_ok,run_equalIn_int w d f.type k' k' a b hu];by_cases e:a=b
   ·subst e;simp [ih]
   ·simp [e]
theorem Ge {T:Nat}{ks:List IntKind}(ht:P.underlying T=some (.struct (P.fieldsOf T)))(hp:P.stoodInHeld T=false)(hok:okF P (P.fieldsOf T).toList 0 ks=true)(az bs:List Int)(ha:az.length=ks.length)(hb:bs.length=ks.length)(w:World) :
  (Op.equalIn 10000 T (.agg (List.zipWith Value.int ks az).toArray) (.agg (List.zipWith Value.int ks bs).toArray)).run P w = .ok (decide (az=bs)) w:=by
 rw[show (10000:Nat)=9999+1 by rfl,run_equalIn_struct w 9999 T _ _ ht hp];exact GJ 9998 w _ _ _ 0 ks az bs hok ha hb (fun j=>qj) (fun j=>qj)
theorem Gc {T:Nat}{ks:List IntKind}(ht:P.underlying T=some (.struct (P.fieldsOf T)))(hp:P.stoodInHeld T=false)(hg:P.eqGuardType P.depth T=false)(hok:okF P (P.fieldsOf T).toList 0 ks=true)(az bs:List Int)(ha:az.length=ks.length)(hb:bs.length=ks.length)
  (x y:Operand) (K:Value->Prop) (t:Zm K):VO P .eql T x y (.agg (List.zipWith Value.int ks az).toArray) (.agg (List.zipWith Value.int ks bs).toArray) K t=K (.bool (decide (az=bs))) :=
 Yw (fun W=>by
  simp only[Sem.run_bind,run_eqGuard_agg W .eql T x y _ _ hg,Result.andThen_ok,run_eql_struct,Ge ht hp hok az bs ha hb W]) K
theorem Vr (k:IntKind)(zs:List Int):∀u∈zs.map (Value.int k),u.oneCell'=true:=fun u hu=>by
 obtain⟨z,_,rfl⟩:=List.mem_map.1 hu;rfl
theorem Y7 (h:PH)(k:IntKind):Ints h k (.slice none 0 0) []:=⟨⟨rfl,none,0,rfl,Nat.le_refl _,qh,qh,fun _=>rfl,fun j c hj=>by simp at hj⟩,fun z hz=>by simp at hz⟩
end Go.X
