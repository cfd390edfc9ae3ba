/- Lemmas and contracts. Conditions: as each says. -/
import Derived.Lib.AppendZerosOnto
import Derived.Lib.Overlaps
import Derived.Test.YtllhopbilpdpkaaGreatQ17
set_option linter.unusedVariables false
set_option linter.unusedSimpArgs false
set_option maxHeartbeats 12800000
set_option maxRecDepth 20000
namespace Go.X
open Go.RowKit
section
variable {P:Program}
theorem GS (b t cap m:Nat)(cs:List Value)(L:Own)(h:PH)(ht:t≠4294967295:=by first|decide|omega):Za (⟨b,t,cs,cap⟩::L) h (⟨b,t,cs.take m,cap⟩::L) h:=fun W hg =>
 ⟨⟨hg.sub,fun e he=>by
  rcases List.mem_cons.1 he with rfl|he
  ·obtain⟨full,f1,f2,f3⟩:=(hg.own ⟨b,t,cs,cap⟩ qj).cells ht;refine .mk ht ⟨full,f1,f2,fun i v hv=>f3 i v ?_⟩;simp only[List.getElem?_take]at hv;split at hv
   ·exact hv
   ·cases hv
  ·exact hg.own e (by simp [he]),hg.nodup,fun e he=>by
  rcases List.mem_cons.1 he with rfl|he
  ·exact hg.apart ⟨b,t,cs,cap⟩ qj
  ·exact hg.apart e (by simp [he])⟩,fun e he=>by
  rcases List.mem_cons.1 he with rfl|he
  ·simp
  ·simp;exact Or.inr ⟨e,he,rfl⟩⟩
theorem Znv (e sz m:Nat)(o:Option (Nat×Nat))(cs:List Value)(L:Own)(h:PH)(ht:e≠4294967295:=by first|decide|omega):Za (oent e sz o cs L) h (oent e sz o (cs.take m) L) h:=by
 cases o with
 | none=>exact Za.refl _ _
 | some p=>exact GS _ _ _ _ _ _ _ ht
theorem Zdt {L L' L2:Own}{h2:PH}{W W':World}(hs:∀e∈L',e.b∈L.map Zn.b)(st:Step L' W L2 h2 W'):Step L W L2 h2 W':=by
 obtain⟨g2,kp,fr⟩:=st;have hsub:∀b∈L'.map Zn.b,b∈L.map Zn.b:=by
  intro b hb;obtain⟨e,he,rfl⟩:=List.mem_map.1 hb;exact hs e he
 exact⟨g2,⟨kp.os,kp.tape,kp.output,kp.size,fun i hi hM=>kp.block i hi fun hm=>hM (hsub i hm)⟩,fun e he=>(fr e he).imp (hsub _) id⟩
theorem V2 {m:Sem Value}{L L':Own}{h h':PH}{K:PK}(hd:Za L h L' h')(hx:Zii P m L' h' K ⟨⟩):Zii P m L h K ⟨⟩:=fun W hg=>by
 obtain⟨g,f⟩:=hd W hg;obtain⟨r,L2,h2,W',hr,hk,st⟩:=hx W g;exact⟨r,L2,h2,W',hr,hk,Zdt f st⟩
theorem Ycc {m:Sem Value}{b t cap:Nat}{cs:List Value}{L:Own}{h:PH}{K:PK}(hx:∀ys:List Value,cs.length+ys.length=cap->Zii P m (⟨b,t,cs++ys,cap⟩::L) h K ⟨⟩)(ht:t≠4294967295:=by first|decide|omega):Zii P m (⟨b,t,cs,cap⟩::L) h K ⟨⟩:=fun W hg=>by
 obtain⟨full,f1,f2,f3⟩:=(hg.own ⟨b,t,cs,cap⟩ qj).cells ht;simp only at f1 f2 f3;have hle:cs.length<=full.size:=by
  rcases Nat.lt_or_ge full.size cs.length with h5|h5
  ·have:=f3 full.size cs[full.size] (by simp [h5]);simp at this
  ·exact h5
 have g:Zo (⟨b,t,cs++full.toList.drop cs.length,cap⟩::L) h W:=by
  refine⟨hg.sub,fun e he=>?_,hg.nodup,fun e he=>?_⟩
  ·rcases List.mem_cons.1 he with rfl|he
   ·refine .mk ht ⟨full,f1,f2,fun i v hv=>?_⟩;simp only[List.getElem?_append]at hv;split at hv
    ·exact f3 i v hv
    ·rw[List.getElem?_drop]at hv;rw[show cs.length+(i-cs.length)=i from qf]at hv
     simpa using hv
   ·exact hg.own e (by simp [he])
  ·rcases List.mem_cons.1 he with rfl|he
   ·exact hg.apart ⟨b,t,cs,cap⟩ qj
   ·exact hg.apart e (by simp [he])
 obtain⟨r,L2,h2,W',hr,hk,st⟩:=hx (full.toList.drop cs.length) qF W g
 exact⟨r,L2,h2,W',hr,hk,Zdt (fun e he=>by
  rcases List.mem_cons.1 he with rfl|he
  ·simp
  ·simp;exact Or.inr ⟨e,he,rfl⟩) st⟩
theorem GC {L:Own}{h:PH}{W:World}(hg:Zo L h W){b t cap o:Nat}{cs:List Value}(hm:(⟨b,t,cs,cap⟩:Zn)∈L)(ht:t≠4294967295){j:Nat}{u:Value}(hj:cs[o+j]?=some u):W.cell? ((⟨b,o,none⟩:Addr).add j)=some u:=by
 obtain⟨full,h1,_,h3⟩:=(hg.own _ hm).cells ht;rw[Ud];have:=h3 (o+j) u hj;simp only[World.cell?];simp only at h1;rw[h1]
 simpa using this
theorem Ygx {t ty e sz:Nat}{ti:TI}(ht:P.underlying t=some (.slice e))(hti:tI P e=some ti)(hz1:ti.size=sz){L:Own}{h:PH}{K:PK}{b o n cap m m' c:Nat}{a:Addr}{news:List Value}
  (hm:min m' n=m) (hs:∀W,Zo L h W->∀(j:Nat) u,news[j]?=some u->W.cell? (a.add j)=some u) (hnl:news.length=m*sz) (hk:Zci L b o news fun L'=>K (.int .i64 m) L' h) :
  Zii P (Builtin.copy_ #[t,t] ty #[.slice (some ⟨b,o,none⟩) n cap,.slice (some a) m' c]) L h K:=by
 intro W hg;obtain⟨L',W',hK,hrun,hgd,hkp,hmm,hbm⟩:=VP (P:=P) hg hk;obtain⟨i,d,zv,g1,g2,g3,rfl⟩:=Vb hti;simp only at hz1;refine⟨.int .i64 m,L',h,W',?_,hK,⟨hgd,Zv.mono hkp (fun x hx=>zH),fun x hx=>Or.inl zM⟩⟩;have hmin:Nat.min m' n=m:=hm;have hl:=run_loadCells_list (P:=P) W a news (hs W hg);rw[hnl,<- hz1]at hl;simp [Builtin.copy_,run_underlying ht,Builtin.lenOf,Builtin.firstCells,sizeOf,typeInfo,g1,hmin,hl,hrun,goInt]
theorem Yfe (z0:Value)(n:Nat):(Builtin.zeroCells #[z0] n).toList=List.replicate n z0:=by
 apply List.ext_getElem?;intro i;simp only[Builtin.zeroCells,Array.toList_map,Array.toList_range,List.getElem?_map,List.getElem?_replicate];by_cases h:i<n
 ·simp [h,Nat.mod_one]
 ·simp [h]
theorem Yis {t ty e:Nat}{ti:TI}{z0:Value}(ht:P.underlying t=some (.slice e))(hti:tI P e=some ti)(hz:ti.zero=[z0]){L:Own}{h:PH}{K:PK}{b o n cap:Nat}(h0:0<n)(hk:Zci L b o (List.replicate n z0) fun L'=>K (.tuple #[]) L' h) :
  Zii P (Builtin.clear_ #[t] ty #[.slice (some ⟨b,o,none⟩) n cap]) L h K:=by
 intro W hg;obtain⟨i,d,zv,g1,g2,g3,rfl⟩:=Vb hti;have hzv:zv.cells=#[z0]:=by apply Array.ext';exact hz
 obtain⟨L',W',hK,hrun,hgd,hkp,hmm,hbm⟩:=VP (P:=P) hg hk;refine⟨.tuple #[],L',h,W',?_,hK,⟨hgd,Zv.mono hkp (fun x hx=>zH),fun x hx=>Or.inl zM⟩⟩;obtain⟨n,rfl⟩:∃n',n=n'+1:=⟨n-1,qf⟩
 have g3':i.zero=some zv:=g3;have hz2:=Yfe z0 (n+1);simp [Builtin.clear_,run_underlying ht,zeroValue,typeInfo,g1,g3',hzv,hz2,hrun]
theorem xcap {T ty e:Nat}(hT:P.underlying T=some (.slice e)){L:Own}{h:PH}{K:PK}(a:Option Addr)(n c:Nat)(hk:K (.int .i64 c) L h):Zii P (Builtin.cap_ #[T] ty #[.slice a n c]) L h K:=by
 intro W hg;exact⟨.int .i64 c,L,h,W,by simp [Builtin.cap_,run_underlying hT,goInt],hk,Step.refl hg⟩
theorem Zaz {T e sz by':Nat}(hT:tSh P T = .sl e sz by')(a:Option Addr)(n c:Nat)(k:IntKind)(i:Int)(h0:0<=i)(h1:i<=(n:Int))(K:Value->Prop):xSl P T (.slice a n c) (some (.int k i)) none none K=K (.slice (Gk a c i.toNat sz) (n-i.toNat) (c-i.toNat)):=by
 unfold tSh at hT;split at hT
 ·rename_i e' hu;split at hT
  ·rename_i ii hi;refine Yw (fun W=>?_) K;injection hT with hT1 hT2 hT3
   subst hT2;simp [Instr.sliceAt,Instr.slice,Instr.sliceBounds,Instr.sliceBound,asIntOf,underlying,hu,YW hi,h0,h1,Gk]
   try (intro hh;omega)
  ·cases hT
 ·split at hT<;>cases hT
 ·cases hT
theorem Yug {t tn ty e sz bytes:Nat}{kn kq:IntKind}{ti:TI}(ht:P.underlying t=some (.slice e))(htn:P.underlying tn=some (.int kn))(hti:tI P e=some ti)(hz1:ti.size=sz)(hz2:ti.bytes=bytes)(hz4:ti.zero.length=sz)(hsz:0<sz)
  {L:Own} {h:PH} {K:PK} {a:Addr} {i c k:Nat} {olds:List Value} (hol:olds.length=i*sz) (hs:∀W,Zo L h W->∀(j:Nat) u,olds[j]?=some u->W.cell? (a.add j)=some u) (h0:0<k) (hg:c<i+k) (h63:i+k<=maxLen) (hb:(i+k)*bytes<=140737488355328)
  (hk:∀b' cap' (zs:List Value),ZS b' L->h b'=noC->i+k<=cap'->cap'<=maxLen->zs.length=k*sz->K (.slice (some ⟨b',0,none⟩) (i+k) cap') (⟨b',e,olds++zs,cap'*sz⟩::L) h) (heT:e≠4294967295:=by first|decide|omega) :
  Zii P (Builtin.append_ #[t,tn] ty #[.slice (some a) i c,.int kq k]) L h K:=by
 intro W hgd;obtain⟨inf,d,zv,g1,g2,g3,rfl⟩:=Vb hti;simp only at hz1 hz2 hz4;have g3':inf.zero=some zv:=g3;have hd:Zo L h W.drew:=⟨hgd.sub,hgd.own,hgd.nodup,hgd.apart⟩
 have hl:=run_loadCells_list (P:=P) W.drew a olds (hs W.drew hd);rw[hol,<- hz1]at hl;have hzl:∀n,(Builtin.zeroCells zv.cells n).size=n*sz:=fun n=>by
  have:zv.cells.size=sz:=by simpa using hz4
  simp [Builtin.zeroCells,this]
 have hml:maxLen<=9223372036854775807:=qh;have hkb:k*inf.bytes<=281474976710656:=by
  rw[hz2];have:=Nat.mul_le_mul_right bytes (show k<=i+k from qf);omega
 have hrun:=Lib.run_append_grow_zeros (P:=P) W t tn ty e inf zv kq kn ht htn g1 g3' (some a) i c olds (by simpa [Builtin.firstCells] using hl) k h0 qf hg qf hkb (growslice_fits hg (by rw[hz2];exact hb));have hge:=grownCap_ge W (i+k) c e;have hle:=grownCap_le_maxLen W (i+k) c e h63;obtain⟨cap',hcap⟩:∃cap',cap'=grownCap W (i+k) c e:=⟨_,rfl⟩
 rw[<- hcap]at hrun hge hle
 obtain⟨q1,q2,q3⟩:=Znk hd ⟨W.drew.heap.size,e,olds++(Builtin.zeroCells zv.cells k).toList,cap'*sz⟩ rfl (.cells (olds.toArray++Builtin.zeroCells zv.cells k++Builtin.zeroCells zv.cells (cap'-(i+k))) e) (.mk heT ⟨_,rfl,by
  have e1:cap'*sz=(i+k)*sz+(cap'-(i+k))*sz:=by rw[<- Nat.add_mul];congr 1;omega
  simp only[Array.size_append,hzl,List.size_toArray,hol];rw[e1,Nat.add_mul],fun j v hv=>by
  simp only at hv;have hlt:=(List.getElem?_eq_some_iff.1 hv).1;have:(olds.toArray++Builtin.zeroCells zv.cells k++Builtin.zeroCells zv.cells (cap'-(i+k)))[j]?=((olds++(Builtin.zeroCells zv.cells k).toList)++(Builtin.zeroCells zv.cells (cap'-(i+k))).toList)[j]?:=by
   rw[<- Array.getElem?_toList];simp
  rw[this,List.getElem?_append_left hlt]
  exact hv⟩)
 refine⟨_,_,h,_,hrun,hk W.heap.size cap' (Builtin.zeroCells zv.cells k).toList q1 q2 hge hle (by simp [hzl]),⟨q3.1,⟨q3.2.1.os,q3.2.1.tape,q3.2.1.output,q3.2.1.size,q3.2.1.block⟩,q3.2.2⟩⟩
theorem Zb.externG {f:FuncId}{args:List Value}{L:Own}{h:PH}{K:PK}{v:Value}(hr:∀W,Zo L h W->(callFunc f args.toArray).run P W = .ok (.value v) W)(hk:K v L h):Zb P f args L h K :=
 ⟨trivial,fun W hg => .inr ⟨v,hr W hg,v,L,h,rfl,hk,Step.refl hg⟩⟩
theorem Zjl {t tR e sz:Nat}{ti:TI}(ht:P.underlying t=some (.slice e))(hti:tI P e=some ti)(hz1:ti.size=sz){L:Own}{h:PH}{b1 b2 o1 o2 t1 t2 c1 c2 la ca lb cb:Nat}{cs1 cs2:List Value}(h1:(⟨b1,t1,cs1,c1⟩:Zn)∈L)(h2:(⟨b2,t2,cs2,c2⟩:Zn)∈L)(ht1:t1≠4294967295)(ht2:t2≠4294967295)(hne:b1≠b2)(hc:c2≠0){W:World}(hg:Zo L h W) :
  (Extern.SlicesOverlaps.overlaps #[t,t] #[tR] #[.slice (some ⟨b1,o1,none⟩) la ca,.slice (some ⟨b2,o2,none⟩) lb cb]).run P W = .ok (.bool false) W:=by
 obtain⟨i,d,zv,g1,g2,g3,rfl⟩:=Vb hti;obtain⟨f1,p1,s1,_⟩:=(hg.own _ h1).cells ht1;obtain⟨f2,p2,s2,_⟩:=(hg.own _ h2).cells ht2;simp only at p1 s1 p2 s2;refine Lib.run_overlaps_apart W t tR e ht i.size (fun w=>by simp [sizeOf,typeInfo,g1]) _ _ la ca lb cb hne t1 t2 c1 c2 ?_ ?_ hc ?_ ?_
 ·simp [World.shape?,p1,s1]
 ·simp [World.shape?,p2,s2]
 ·simp [World.frozen?,p1]
 ·simp [World.frozen?,p1]
theorem Ziz:∀ {L:Own},(L.map Zn.b).Nodup->∀x∈L,∀y∈L,x.b=y.b->x=y
 | [],_,_,hx,_,_,_=>zh
 | e::L,hn,x,hx,y,hy,hb=>by
  simp only[List.map_cons,List.nodup_cons]at hn;rcases List.mem_cons.1 hx with e1|hx1<;>rcases List.mem_cons.1 hy with e2|hy1
  ·rw[e1,e2]
  ·exact absurd (by rw[<- e1,hb];exact List.mem_map_of_mem hy1) hn.1
  ·exact absurd (by rw[<- e2,<- hb];exact List.mem_map_of_mem hx1) hn.1
  ·exact Ziz hn.2 x hx1 y hy1 hb
theorem Zb.frame1 {f:FuncId}{args:List Value}{L:Own}{h:PH}{K:PK}{x:Zn}{r:Value}(hx:x∈L)(hs:Zb P f args [x] h fun v L' h'=>v=r/\L'=[x]/\h'=h)(hk:K r L h):Zb P f args L h K:=by
 refine⟨trivial,fun W hg=>?_⟩;obtain⟨g1,_⟩:=Za.mem hx W hg;refine(hs.2 W g1).mono fun e W' hh=>?_;obtain⟨v,L2,h2,e1,⟨hv,hL,hH⟩,st⟩:=hh;subst hv hL hH;obtain⟨g2,kp,_⟩:=st;refine⟨v,L,h2,e1,hk,⟨g2.sub,fun e he=>?_,hg.nodup,hg.apart⟩,⟨kp.os,kp.tape,kp.output,kp.size,fun k hk' hM=>kp.block k hk' fun hm=>hM ?_⟩,fun e he=>Or.inl (List.mem_map_of_mem he)⟩
 ·by_cases hb:e.b=x.b
  ·have:e=x:=Ziz hg.nodup e he x hx hb;rw[this];exact g2.own x qj
  ·rw[kp.block _ (Zba hg he) (by simpa using hb)];exact hg.own e he
 ·simp only[List.map_cons,List.map_nil,List.mem_singleton]at hm;rw[hm];exact List.mem_map_of_mem hx
theorem drop_left (A B:Own)(h:PH):Za (A++B) h A h:=fun W hg =>
 ⟨⟨hg.sub,fun e he=>hg.own e (List.mem_append_left _ he),(List.nodup_append.1 (by simpa using hg.nodup:(A.map Zn.b++B.map Zn.b).Nodup)).1,fun e he=>hg.apart e (List.mem_append_left _ he)⟩,fun e he=>List.mem_map_of_mem (List.mem_append_left _ he)⟩
end
end Go.X
