/- Lemmas and contracts. Conditions: as each says. -/
import Derived.OrdersIn
import Derived.Test.YtpdidilobgimcaaGreatQ33
set_option linter.unusedVariables false
set_option linter.unusedSimpArgs false
set_option maxHeartbeats 12800000
set_option maxRecDepth 20000
namespace Go.X
open Go.RowKit
variable {P:Program}
theorem Yhv {ρ:Option Nat}{n:Nat}{row:String}{args:Array Value}{w:World}{R:Value→World→Prop}(h:Rows P row args w R):RowsIn (rF ρ) n P row args w R :=
 (fun c cs _=>let ⟨v,w',r,s⟩:=h c cs; ⟨v,w',r,stepsIn_wide.2 s⟩:RowsIn Fence.wide n P row args w R)
theorem Ygq {ρ:Option Nat}{o:Oper}{a:Act}{next:Act→World→Prop}{Q:Exit→Act→World→Prop}{r:Result Next}(hr:o.upon P a next Q r):o.uponIn (rF ρ) 0 P a next Q r:=by
 cases r with
 | ok x w =>
  cases x with
  | value v=>exact hr
  | skip=>exact hr
  | defer d=>exact hr
  | enter f args=>exact⟨JE,Gb hr⟩
  | row s args=>exact⟨JE,Yhv hr⟩
  | _=>exact hr.elim
 | halt x w =>
  cases x with
  | panic v=>exact hr
  | _=>exact hr.elim
theorem Yhq {ρ:Option Nat}{ops:Array Oper}{Q:Exit→Act→World→Prop}(hno:¬LetsOut Q)(hnd:∀(j:Nat) (o:Oper),ops[j]?=some o→∀c,o.op ≠ .defer c){i:Nat}{K:Act→World→Prop}{a:Act}{w:World}(hx:wpOp P ops Q i K a w):wpOpIn (rF ρ) 0 P ops Q i K a w:=by
 unfold wpOp at hx;unfold wpOpIn
 cases ho:ops[i]? with
 | none=>rw[ho]at hx;exact hx
 | some o =>
  rw[ho]at hx;simp only at hx ⊢;split
  ·rename_i c;rw[if_pos c]at hx;refine⟨fun _ _=>trivial,?_⟩;rw[Oper.semAt_eq _ _ _ (hnd i o ho)];rcases hx with hx|hx
   ·exact Ygq hx
   ·exact absurd hx.2 hno
  ·rename_i c;rw[if_neg c]at hx;exact⟨fun _ _=>trivial,hx⟩
theorem Zmj {ρ:Option Nat}{ops:Array Oper}{Q:Exit→Act→World→Prop}(hno:¬LetsOut Q)(hnd:∀(j:Nat) (o:Oper),ops[j]?=some o→∀c,o.op ≠ .defer c):∀(fuel:Nat) (listed:Array Bool) (a:Act) (w:World),wpAny P .any ops Q fuel listed a w→wpAnyIn (rF ρ) 0 P .any ops Q fuel listed a w
 | 0,_,_,_,hx=>hx
 | fuel+1,listed,a,w,hx=>⟨hx.1,fun i hi=>wpOpIn_mono (fun a w=>Zmj hno hnd fuel _ a w) (Yhq hno hnd (hx.2 i hi))⟩
def Zly:Op→Bool
 | .defer _=>false
 | _=>true
theorem Zbg {ρ:Option Nat}(hm:P.follows .mixedOrders=true){nt:Nat}{M:List Nat}{W0:World}{id:Nat}{ops:Array Oper}{Q:UZ}{E:Env}{L:Own}{h:PH}{a:Act}{W:World}(hw:wfC nt (.region id ops true)=true)
  (hnd:(ops.toList.all fun o=>Zly o.op)=true) (hnq:(ops.toList.all fun o=>Vz o.op)=false)
  (hx:xC P (.region id ops true) Q E L h) (ok:Ok nt M W0 E L h a W):(Code.region id ops true).wpIn (rF ρ) 0 P (Up nt M W0 Q) a W:=by
 rcases hx with⟨hB,hq,hx⟩ | ⟨hs,T,hT,I,hI,s,E0,L0,h0,hE0,hD0,hK0,hx⟩
 ·rw[hnq]at hq;cases hq
 ·have ok0:Ok nt M W0 E0 L0 h0 a { W with drawn:=W.drawn+1 }:=by
   have ok1:Ok nt M W0 E L h a { W with drawn:=W.drawn+1 }:=⟨ok.env,ok.size,ok.marks.heap rfl fun e he=>List.mem_map_of_mem he,⟨ok.good.sub,ok.good.own,ok.good.nodup,ok.good.apart⟩,⟨ok.kept.os,ok.kept.tape,ok.kept.output,ok.kept.size,ok.kept.block⟩,ok.fresh⟩
   rcases hE0 with rfl|hE0
   ·obtain⟨g,f⟩:=hD0 _ ok1.good;refine⟨ok1.env,ok1.size,ok1.marks.heap rfl (by first|exact f|exact hf),g,ok1.kept,fun e he=>?_⟩;obtain⟨e',he',hb⟩:=List.mem_map.1 (f e he);rw[← hb];exact ok1.fresh e' he'
   ·exact ok1.weaken hE0 hD0
  have h1:wpAny P .any ops.toList.toArray (UpN nt M W0 fun e E L h=>match e with | .normal=>I E L h|_=>False) ops.size (Array.replicate ops.size false) a { W with drawn:=W.drawn+1 }:=by
   cases s with
   | none=>exact(VP (P:=P) (Q:=fun e E L h=>match e with | .normal=>I E L h|_=>False) (ops:=ops.toList) hw (by simpa using hs) T true ops.size (Array.replicate ops.size false) (by simpa using hT) hx ok0).1 rfl
   | some p=>exact J7 _ _ _ _ ((Vf (P:=P) (L0:=p.1) (h0:=p.2) (Q:=fun e E L h=>match e with | .normal=>I E L h|_=>False) (ops:=ops.toList) hw (by simpa using hs) T true ops.size (Array.replicate ops.size false) (by simpa using hT) hx ok0 (hK0 _ ok0.good)).1 rfl)
  have hnd':∀(j:Nat) (o:Oper),ops.toList.toArray[j]?=some o→∀c,o.op ≠ .defer c:=fun j o ho c e=>by
   have hmem:o∈ops.toList:=by
    rw[List.getElem?_toArray]at ho;exact List.mem_of_getElem? ho
   have:=List.all_eq_true.1 hnd o hmem;rw[e]at this
   cases this
  have h2:=wpIn_region_any (F:=rF ρ) (n:=0) (id:=id) hm (by simpa using Zmj (ρ:=ρ) (fun⟨_,_,hq⟩=>by obtain⟨_,_,_,hq,_⟩:=hq.2;exact hq) hnd' _ _ _ _ h1);refine wpIn_mono h2 fun e a' w' hq=>?_;obtain⟨E1,L1,h1,hq1,ok1⟩:=hq.2
  cases e with
  | normal =>
   obtain⟨E2,L2,h2,hE,hD,hQ⟩:=hI E1 L1 h1 hq1;refine⟨E2,L2,h2,hQ,?_⟩;rcases hE with rfl|hE
   ·obtain⟨g,f⟩:=hD w' ok1.good;refine⟨ok1.env,ok1.size,ok1.marks.heap rfl (by first|exact f|exact hf),g,ok1.kept,fun e he=>?_⟩;obtain⟨e',he',hb⟩:=List.mem_map.1 (f e he);rw[← hb];exact ok1.fresh e' he'
   ·exact ok1.weaken hE hD
  | _=>exact hq1.elim
def WW:Code→Bool
 | .region _ ops d => !d||((ops.toList.all fun o=>Zly o.op) && !(ops.toList.all fun o=>Vz o.op))
 | .seq a b | .cond _ a b=>WW a&&WW b
 | .block _ c | .loop c=>WW c
 | .rangeFunc .. | .scope _=>false
 | _=>true
theorem Y7 (hm:P.follows .mixedOrders=true){nt:Nat}{M:List Nat}{W0:World}{ρ:Option Nat}(hrange:ρ=none→∀ {g:Operand} {ps:Array Tmp} {assign body:Code} {Q:UZ} {E:Env} {L:Own} {h:PH} {a:Act} {W:World},
      wfC nt (.rangeFunc g ps assign body)=true→xC P (.rangeFunc g ps assign body) Q E L h→Ok nt M W0 E L h a W→(Code.rangeFunc g ps assign body).wpIn (rF ρ) 0 P (Up nt M W0 Q) a W):∀ {c:Code} {Q:UZ} {E:Env} {L:Own} {h:PH} {a:Act} {W:World},wfC nt c=true→(ρ=none∨WW c=true) →
    xC P c Q E L h→Ok nt M W0 E L h a W→c.wpIn (rF ρ) 0 P (Up nt M W0 Q) a W
  | .skip,Q,E,L,h,a,W,_,_,hx,ok=>wpIn_skip ⟨E,L,h,hx,ok⟩
  | .label _,Q,E,L,h,a,W,_,_,hx,ok=>wpIn_label ⟨E,L,h,hx,ok⟩
  | .exit id,Q,E,L,h,a,W,_,_,hx,ok=>wpIn_exit ⟨E,L,h,hx,ok⟩
  | .ret,Q,E,L,h,a,W,_,_,hx,ok=>wpIn_ret ⟨E,L,h,hx,ok⟩
  | .seq x y,Q,E,L,h,a,W,hw,hn,hx,ok=>by
    simp only[wfC,Bool.and_eq_true]at hw;simp only[WW,Bool.and_eq_true]at hn;refine wpIn_seq (wpIn_mono (Y7 hm hrange hw.1 (hn.imp id And.left) hx ok) fun e a' W' hq=>?_);obtain⟨E',L',h',hq,ok'⟩:=hq
    cases e<;>first|exact Y7 hm hrange hw.2 (hn.imp id And.right) hq ok' | exact⟨E',L',h',hq,ok'⟩
  | .cond c x y,Q,E,L,h,a,W,hw,hn,hx,ok=>by
    simp only[wfC,Bool.and_eq_true]at hw;simp only[WW,Bool.and_eq_true]at hn;obtain⟨t,ht,h1,h2⟩:=ZV ok.env (x:=c) hx
    cases t with
    | true=>exact wpIn_cond_true ht (Y7 hm hrange hw.1 (hn.imp id And.left) (h1 rfl) ok)
    | false=>exact wpIn_cond_false ht (Y7 hm hrange hw.2 (hn.imp id And.right) (h2 rfl) ok)
  | .block id c,Q,E,L,h,a,W,hw,hn,hx,ok=>by
    refine wpIn_block (wpIn_mono (Y7 hm hrange (c:=c) hw hn hx ok) fun e a' W' hq=>?_);obtain⟨E',L',h',hq,ok'⟩:=hq
    cases e with
    | exit i =>
      simp only[inB]at hq;simp only[Exit.inBlock];split
      · rename_i hi;rw[if_pos hi]at hq;exact⟨E',L',h',hq,ok'⟩
      · rename_i hi;rw[if_neg hi]at hq;exact⟨E',L',h',hq,ok'⟩
    | _=>exact⟨E',L',h',hq,ok'⟩
  | .loop c,Q,E,L,h,a,W,hw,hn,hx,ok=>by
    obtain⟨I,⟨n0,h0⟩,hround⟩:=hx;refine wpIn_loop (fun a' W'=>∃n E L h,I n E L h∧Ok nt M W0 E L h a' W') (fun a' W'=>leastOf fun n=>∃E L h,I n E L h∧Ok nt M W0 E L h a' W') ⟨n0,E,L,h,h0,ok⟩ ?_;intro a1 W1 hI;obtain⟨E1,L1,h1,hI1,ok1⟩:=(leastOf_spec (p:=fun n=>∃E L h,I n E L h∧Ok nt M W0 E L h a1 W1) hI).1;obtain⟨E2,L2,h2,hE,hD,hx⟩:=hround _ E1 L1 h1 hI1;refine wpIn_mono (Y7 hm hrange (c:=c) hw hn hx (ok1.weaken hE hD)) fun e a' W' hq=>?_;obtain⟨E',L',h',hq,ok'⟩:=hq
    cases e with
    | normal =>
      obtain⟨m,hlt,hI'⟩:=hq;have hex:∃n,∃E L h,I n E L h∧Ok nt M W0 E L h a' W':=⟨m,E',L',h',hI',ok'⟩
      exact show (∃n,∃E L h,I n E L h∧Ok nt M W0 E L h a' W')∧_<_ from⟨hex,Nat.lt_of_le_of_lt ((leastOf_spec hex).2 m ⟨E',L',h',hI',ok'⟩) hlt⟩
    | exit id=>exact⟨E',L',h',hq,ok'⟩
    | goto l=>exact⟨E',L',h',hq,ok'⟩
    | ret=>exact⟨E',L',h',hq,ok'⟩
    | panic ch=>exact⟨E',L',h',hq,ok'⟩
    | outgrown=>exact⟨E',L',h',hq,ok'⟩
  | .region id ops false,Q,E,L,h,a,W,hw,_,hx,ok=>wpIn_region_list (UN (ops:=ops.toList) hw hx ok)
  | .region id ops true,Q,E,L,h,a,W,hw,hn,hx,ok=>by
    rcases hn with rfl|hn
    · exact wpIn_wide.2 (Gs hm hw hx ok)
    · simp only[WW,Bool.not_true,Bool.false_or,Bool.and_eq_true,Bool.not_eq_true']at hn;exact Zbg hm hw hn.1 hn.2 hx ok
  | .rangeFunc g ps assign body,Q,E,L,h,a,W,hw,hn,hx,ok=>by
    rcases hn with hn|hn
    · exact hrange hn hw hx ok
    · simp [WW]at hn
  | .scope c,Q,E,L,h,a,W,hw,hn,hx,ok=>by
    rcases hn with rfl|hn
    · refine wpIn_wide.2 (wp_scope_straight (wpIn_wide.1 (wpIn_mono (Y7 hm hrange (c:=c) hw (.inl rfl) hx ok) fun e a' W' hq=>?_)));obtain⟨E',L',h',hq,ok'⟩:=hq
      cases e with
      | goto l=>exact hq.elim
      | _=>exact⟨E',L',h',hq,ok'⟩
    · simp [WW]at hn
  | .goto _,_,_,_,_,_,_,_,_,hx,_=>hx.elim
  | .refuse _,_,_,_,_,_,_,_,_,hx,_=>hx.elim
theorem Zfj (hm:P.follows .mixedOrders=true){l D fn:Nat}{tmps:Array Value}{ps:Array Tmp}{assign body:Code}{E:Env}{args:List Value}{L:Own}{h:PH}{K:PK}
  (he:∀i v,E.lookup i=some v→tmps.getD i undef=v) (hp:(ps.all fun p=>decide (p<tmps.size))=true) (ha:wfC tmps.size assign=true) (hb:wfC tmps.size body=true)
  (na:WW assign=true) (nb:WW body=true) (hl:ps.size=args.length)
  (hx:xC P assign (fun e E1 L1 h1=>match e with | .normal=>xC P body (GZ l (V8 fn tmps ps assign body D) K) E1 L1 h1|_=>False) (Je ps.toList args E) L h) :
  YSpec P l args (Zbk l (V8 fn tmps ps assign body D .ready none)::L) h K:=by
 refine⟨trivial,fun W hg=>?_⟩;have hl0:=(hg.own _ (by simp)).at (e:=Zbk l (V8 fn tmps ps assign body D .ready none)) rfl rfl;have hlL:l ∉ L.map Zl.b:=(List.nodup_cons.1 hg.nodup).1;have hlt:l<W.heap.size:=(Array.getElem?_eq_some_iff.1 hl0).1;have hg0:Zk L h W:=⟨hg.sub,fun e he=>hg.own e (List.mem_cons_of_mem _ he),(List.nodup_cons.1 hg.nodup).2,fun e he=>hg.apart e (List.mem_cons_of_mem _ he)⟩
 have hy:=run_yield (P:=P) (args:=args.toArray) hl0 (by simp [hl]);refine⟨fn,_,assign,body,hy,?_⟩;have hf:(ps.zip args.toArray).foldl (fun tmps (t,a)=>tmps.setIfInBounds t a) tmps=((ps.toList.zip args).foldl (fun t (q:Tmp×Value)=>t.setIfInBounds q.1 q.2) tmps):=by
  rw[← Array.foldl_toList,Array.toList_zip]
 have hb0:=GY ps.toList args E tmps he (fun p hpm=>by
  have:=Array.all_eq_true'.1 hp p (by simpa using hpm)
  simpa using this)
 rw[← hf]at hb0;have ok:Ok tmps.size (L.map Zl.b) W (Je ps.toList args E) L h { tmps:=(ps.zip args.toArray).foldl (fun tmps (t,a)=>tmps.setIfInBounds t a) tmps,defers:=[] } W :=
  ⟨hb0.1,hb0.2,Zt.nil _ _ _,hg0,Zs.refl _ _,fun e he=>Or.inl (List.mem_map_of_mem he)⟩
 refine roundIn_of_wpIn (F:=Fence.wide) trivial (wpIn_mono (Y7 (ρ:=some l) hm (fun h=>by cases h) ha (.inr na) hx ok) fun e a1 W1 hq=>?_);obtain⟨E1,L1,h1,hq,ok1⟩:=hq
 cases e with
 | normal =>
  have hl1:W1.heap[l]?=some (V8 fn tmps ps assign body D .ready none):=(ok1.kept.block l hlt hlL).trans hl0;have hlL1:l ∉ L1.map Zl.b:=fun hmem=>by
   obtain⟨e,he,hb⟩:=List.mem_map.1 hmem;rcases ok1.fresh e he with h2|h2
   ·rw[hb]at h2;exact hlL h2
   ·omega
  have hlt1:l<W1.heap.size:=(Array.getElem?_eq_some_iff.1 hl1).1;refine⟨W1.putObj l (V8 fn tmps ps assign body D .busy none),run_beginRound hl1 rfl,?_⟩;obtain⟨W2,hW2⟩:∃W2,W1.putObj l (V8 fn tmps ps assign body D .busy none)=W2:=⟨_,rfl⟩
  have hl2:W2.heap[l]?=some (V8 fn tmps ps assign body D .busy none):=by rw[← hW2];exact World.putObj_heap_same hlt1
  have hs2:W2.heap.size=W1.heap.size:=by rw[← hW2];simp
  have hg2:Zk L1 h1 W2:=by rw[← hW2];exact Vs _ ok1.good hlL1 hl1 (fun _ _ _ h=>by cases h)
  have hWs:W.heap.size≤W2.heap.size:=by rw[hs2];exact ok1.kept.size
  obtain⟨V,hV⟩:∃V:World,{ W2 with heap:=W2.heap.extract 0 W.heap.size }=V:=⟨_,rfl⟩
  have hVs:V.heap.size=W.heap.size:=by rw[← hV];simp;omega
  have hVk:∀k,k<W.heap.size→V.heap[k]?=W2.heap[k]?:=fun k hk=>by rw[← hV];simp [Array.getElem?_extract,hk];omega
  have ok2:Ok tmps.size (L.map Zl.b) V E1 L1 h1 a1 W2:=by
   refine⟨ok1.env,ok1.size,?_,hg2,⟨by rw[← hV],by rw[← hV],by rw[← hV],by omega,fun k hk _=>(hVk k (by omega)).symm⟩,fun e he=>by rw[hVs];exact ok1.fresh e he⟩;rw[hVs,← hW2];refine Zax _ ok1.marks fun hd=>?_;obtain⟨D',e,_,h0,_⟩:=ok1.marks.at' _ hd;injection e with e
   injection e with e
   omega
  rw[hW2];refine wpIn_mono (Y7 (ρ:=some l) hm (fun h=>by cases h) hb (.inr nb) hq ok2) fun e a3 W3 hq3=>?_;obtain⟨E3,L3,h3,hq3,ok3⟩:=hq3;have hl3:W3.heap[l]?=some (V8 fn tmps ps assign body D .busy none):=((ok3.kept.block l (by omega) hlL).trans (hVk l hlt)).trans hl2;have hlt3:l<W3.heap.size:=(Array.getElem?_eq_some_iff.1 hl3).1;have fin:∀(v:Bool) (st:LoopState) (jump:Option Code),Ybe K v l (V8 fn tmps ps assign body D st jump) L3 h3 →
    ∃r L' h',Ending.returned (.bool v) = .returned r∧K r L' h'∧Step (Zbk l (V8 fn tmps ps assign body D .ready none)::L) W L' h' (W3.putObj l (V8 fn tmps ps assign body D st jump)):=by
   rintro v st jump ⟨L4,h4,hd,hk⟩;obtain⟨hg4,hb4⟩:=hd W3 ok3.good;have fr4:∀e∈L4,e.b∈L.map Zl.b∨W.heap.size≤e.b:=fun e he=>by
    obtain⟨e3,he3,hb3⟩:=List.mem_map.1 (hb4 e he);have h5:=ok3.fresh e3 he3;rw[hVs,hb3]at h5;exact h5
   have hl4:l ∉ L4.map Zl.b:=fun hmem=>by
    obtain⟨e,he,hb⟩:=List.mem_map.1 hmem;rcases fr4 e he with h5|h5
    ·rw[hb]at h5;exact hlL h5
    ·omega
   refine⟨_,_,h4,rfl,hk,⟨?_,?_,?_,?_⟩,?_,?_⟩
   ·exact(Vs _ hg4 hl4 hl3 (fun _ _ _ h=>by cases h)).sub
   ·intro e he;rcases List.mem_cons.1 he with rfl|he
    ·exact .mkAt rfl rfl (World.putObj_heap_same hlt3)
    ·exact(Vs _ hg4 hl4 hl3 (fun _ _ _ h=>by cases h)).own e he
   ·exact List.nodup_cons.2 ⟨hl4,hg4.nodup⟩
   ·intro e he;rcases List.mem_cons.1 he with rfl|he
    ·funext o
     show h4 l o=none
     cases hv:h4 l o with
     | none=>rfl
     | some u=>have:=hg4.sub l o u hv;rw[Zei hl3 (fun _ _ _ h=>by cases h)]at this;cases this
    ·exact hg4.apart e he
   ·have k1:Zs (l::L.map Zl.b) W W1:=⟨ok1.kept.os,ok1.kept.tape,ok1.kept.output,ok1.kept.size,fun k hk hM=>ok1.kept.block k hk fun hm=>hM (List.mem_cons_of_mem _ hm)⟩
    have k2:Zs (l::L.map Zl.b) W W2:=by rw[← hW2];exact UU _ k1 (.inl (by simp))
    have k3:Zs (l::L.map Zl.b) W W3:=by
     have ko:=ok3.kept.os;have kt:=ok3.kept.tape;have kp:=ok3.kept.output;rw[← hV]at ko kt kp;refine⟨ko.trans k2.os,kt.trans k2.tape,kp.trans k2.output,by have:=ok3.kept.size;omega,fun k hk hM=>?_⟩;rw[ok3.kept.block k (by omega) (fun hm=>hM (List.mem_cons_of_mem _ hm)),hVk k hk];exact k2.block k hk hM
    exact UU _ k3 (.inl (by simp))
   ·intro e he;rcases List.mem_cons.1 he with rfl|he
    ·exact .inl (by simp)
    ·rcases fr4 e he with h5|h5
     ·exact .inl (List.mem_cons_of_mem _ h5)
     ·exact .inr h5
  cases e with
  | normal=>exact⟨_,_,run_endRound none hl3,fin true _ _ hq3⟩
  | ret=>exact⟨_,_,run_endRound (some .ret) hl3,fin false _ _ hq3⟩
  | exit id=>exact⟨_,_,run_endRound (some (.exit id)) hl3,fin false _ _ hq3⟩
  | _=>exact hq3.elim
 | _=>exact hq.elim
theorem Zuu {P:Program}(hm:P.follows .mixedOrders=true){l D fn:Nat}{tmps:Array Value}{ps:List Tmp}{assign body:Code}{E:Env}{args:List Value}{L:Own}{h:PH}{K:PK}
  (he:∀i v,E.lookup i=some v→tmps.getD i undef=v) (hp:(ps.toArray.all fun p=>decide (p<tmps.size))=true) (ha:wfC tmps.size assign=true) (hb:wfC tmps.size body=true)
  (na:WW assign=true) (nb:WW body=true) (hl:ps.length=args.length)
  (hx:xC P assign (thn (xC P body (GZ l (V8 fn tmps ps.toArray assign body D) K)) fun _ _ _ _=>False) (Je ps args E) L h) :
  YSpec P l args (Zbk l (V8 fn tmps ps.toArray assign body D .ready none)::L) h K:=by
 refine Zfj hm he hp ha hb na nb (by simpa using hl) ?_;have key:∀Q1 Q2:UZ,Q1=Q2→xC P assign Q2 (Je ps args E) L h→xC P assign Q1 (Je ps args E) L h:=fun _ _ e hx=>e ▸ hx;refine key _ _ ?_ hx
 funext e E1 L1 h1
 cases e<;>rfl
open Go.RowKit Go.Proofs Go.Bl Go.Proofs.Tryz
variable {L:Own} {h:PH} {K:PK}
abbrev RQ:=RV×Zi
def rpQ (x:RQ):List Value:=rpC x.2 x.1
structure Yyq (h:PH)(v:Value)(l:List Zi)(q:List RQ):Prop where
 r:Zj rpQ 14 h v q
 e:q.map (fun x=>x.2)=l
 i:∀x∈q,Zx h x.1 x.2
theorem Yyq.up {h h':PH}(le:PH.le h h'){v:Value}{l:List Zi}{q:List RQ}(x:Yyq h v l q):Yyq h' v l q:=⟨x.r.up le,x.e,fun y hy=>(x.i y hy).up le⟩
structure RuG where
 o:Option (Nat×Nat)
 u:SV
 q:List RQ
structure RuI (pl:List (List Int))(s:Zf)(j:Nat)(h:PH)(y:RuG):Prop where
 i:Zp h y.u (itS pl s j)
 ok:okO y.o j
 l:y.q.length=j
 e:y.q.map (fun x=>x.2)=(List.range j).map (itR pl s)
 r:∀x∈y.q,Zx h x.1 x.2
theorem RuI.up {pl:List (List Int)}{s:Zf}{j:Nat}{h h':PH}(le:PH.le h h'){y:RuG}(x:RuI pl s j h y):RuI pl s j h' y:=⟨x.i.up le,x.ok,x.l,x.e,fun z hz=>(x.r z hz).up le⟩
theorem RuI.next {pl:List (List Int)}{s:Zf}{j:Nat}{h:PH}{y:RuG}(x:RuI pl s j h y){o':Option (Nat×Nat)}{u:SV}{q:RV}(i:Zp h u (itS pl s (j+1)))(r:Zx h q (itR pl s j))(ok:okO o' (j+1)):RuI pl s (j+1) h ⟨o',u,y.q++[(q,itR pl s j)]⟩ :=
 ⟨i,ok,by rw[List.length_append,x.l];rfl,by rw[List.map_append,x.e,List.range_succ,List.map_append];rfl,fun z hz=>by
  rcases List.mem_append.1 hz with hz|hz
  ·exact x.r z hz
  ·rw[List.mem_singleton]at hz;subst hz;exact r⟩
def whN (pl:List (List Int))(s:Zf):Nat→Nat→Int×Bool×Int
 | 0,_=>(0,false,0)
 | m+1,i=>if (itS pl s i).ep<1073741824 then (if (itR pl s i).quo=true then ((i:Int)+1,true,0) else whN pl s m (i+1)) else (0,false,200)
def Zef (pl:List (List Int))(s:Zf)(n:Int):Int×Bool×Int:=if Wi s=true then (if n<0∨1000<n then (0,false,2) else whN pl s n.toNat 0) else (0,false,291)
abbrev whO (b8 b7 b6 b5 b3:Nat)(n:Int)(s:Zf)(v:SV)(L:Own):Own :=
 ⟨b8,40,[.int .i64 0],1⟩::⟨b7,4,[.bool false],1⟩::⟨b6,3,[.int .i64 0],1⟩::⟨b5,3,[.int .i64 n],1⟩::⟨b3,34,stC s v,41⟩::L
theorem Zuq {s:Zf}{pl:List QS}{ga:Option Addr}{gc:Nat}(v:SV)(n:Int)(hs:Zp h v s)(few:Zv s)(hd:(s.dues.length:Int)+384*(n+1)≤28000∨1000<n)(hp:Zw h (.slice ga pl.length gc) pl)(hn:n≤60∨1000<n)
  (hk:∀h',PH.le h h'→K (.tuple #[.int .i64 (Zef (xsL pl) s n).1,.bool (Zef (xsL pl) s n).2.1,.int .i64 (Zef (xsL pl) s n).2.2]) L h') :
  Zb prog 19 [stV s v,.slice ga pl.length gc,.int .i64 n] L h K:=by
 obtain⟨pa,pc,ma,mc,ea,ec,xa,xc,oa,oc,da,dc,ta,tc,ka,kc,ra,rc,rfl⟩:=hs.slices;refine ZR func19 rfl (rs:=[_,_,_]) rfl rfl ZW (by kernel_rfl) (by kernel_rfl) rfl ?_;refine xx ?_;refine Z0 fun b3 nb3 zb3=>?_;(try simp only[ZU]at nb3);clear nb3;refine xx ?_;refine Z0 fun b5 nb5 zb5=>?_;(try simp only[ZU]at nb5);have n53:NeB b5 b3:=Ne.symm nb5.1;clear nb5;refine xx ?_;refine Z0 fun b6 nb6 zb6=>?_;(try simp only[ZU]at nb6);have n65:NeB b6 b5:=Ne.symm nb6.1;have n63:NeB b6 b3:=Ne.symm nb6.2.1;clear nb6;refine xx ?_;refine Z0 fun b7 nb7 zb7=>?_;(try simp only[ZU]at nb7);have n76:NeB b7 b6:=Ne.symm nb7.1;have n75:NeB b7 b5:=Ne.symm nb7.2.1;have n73:NeB b7 b3:=Ne.symm nb7.2.2.1;clear nb7;refine xx ?_;refine Z0 fun b8 nb8 zb8=>?_;(try simp only[ZU]at nb8);have n87:NeB b8 b7:=Ne.symm nb8.1;have n86:NeB b8 b6:=Ne.symm nb8.2.1;have n85:NeB b8 b5:=Ne.symm nb8.2.2.1;have n83:NeB b8 b3:=Ne.symm nb8.2.2.2.1;clear nb8;refine xx ?_;refine Zun (s:=s) ⟨.slice pa s.purses.length pc,.slice ma s.members.length mc,.slice ea s.entry.length ec,.slice xa s.exit.length xc,.slice oa s.pool.length oc,.slice da s.dues.length dc,.slice ta s.motions.length tc,.slice ka s.marks.length kc,.slice ra s.ring.length rc⟩ n hs few ?_;by_cases c0:Wi s=true
 rotate_left
 ·rw[if_neg c0];have no:=hk h (PH.le_refl h);rw[Zef,if_neg c0]at no;refine xx ?_;exact ZO (ZO (ZO (ZO (ZO (ZP no)))))
 rw[if_pos c0];by_cases c1:n<0∨1000<n
 ·rw[if_pos c1];have no:=hk h (PH.le_refl h);rw[Zef,if_pos c0,if_pos c1]at no;refine xx ?_;exact ZO (ZO (ZO (ZO (ZO (ZP no)))))
 rw[if_neg c1];obtain⟨N,rfl⟩:∃N:Nat,n=N:=⟨n.toNat,by omega⟩
 have eW:Zef (xsL pl) s (N:Int)=whN (xsL pl) s N 0:=by rw[Zef,if_pos c0,if_neg c1,Int.toNat_natCast]
 rw[eW]at hk;have hN60:N≤60:=by omega
 refine xx ?_;refine Zik (s:=s) ⟨.slice pa s.purses.length pc,.slice ma s.members.length mc,.slice ea s.entry.length ec,.slice xa s.exit.length xc,.slice oa s.pool.length oc,.slice da s.dues.length dc,.slice ta s.motions.length tc,.slice ka s.marks.length kc,.slice ra s.ring.length rc⟩ hs ga pl.length gc fun c2 c3 m1 m2 m3 m4 m5=>?_;clear m1 m2 m3 m4 m5;refine xx ?_;refine Yco ⟨f182,func182,by decide +kernel,rfl⟩ fun l D fn tmps he hp2 ha hb nl hl=>?_;clear nl hl
 generalize hR:V8 fn tmps _ _ _ D .ready none=R
 refine Zb.weaken (Za.perm _ (List.perm_middle (l₁:=[_,_]) (l₂:=_::_::_::_::_::L) (a:=Zbk l R)).symm) ?_;refine Zyv (s:=s) (pl:=pl) c2 c3 l (N+1) (by omega) (by omega) hp ⟨.slice pa s.purses.length pc,.slice ma s.members.length mc,.slice ea s.entry.length ec,.slice xa s.exit.length xc,.slice oa s.pool.length oc,.slice da s.dues.length dc,.slice ta s.motions.length tc,.slice ka s.marks.length kc,.slice ra s.ring.length rc⟩ ⟨hs,c0,by show s.dues.length≤_;omega⟩
  (fun j LL h2=>LL=Zbk l R::whO b8 b7 b6 b5 b3 N s ⟨.slice pa s.purses.length pc,.slice ma s.members.length mc,.slice ea s.entry.length ec,.slice xa s.exit.length xc,.slice oa s.pool.length oc,.slice da s.dues.length dc,.slice ta s.motions.length tc,.slice ka s.marks.length kc,.slice ra s.ring.length rc⟩ L∧whN (xsL pl) s N 0=whN (xsL pl) s (N-j) j)
  (fun j LL h2 h3 i le _=>i) ?_ ?_ ⟨rfl,rfl⟩ (by omega)
 ·rintro j LL h2 M u3 q3 hj ⟨rfl,hw⟩ le2 hI hr hep nd ap
  try simp only at nd ap ⊢
  have a28:h2 b8=noC:=ap.2.1;have a27:h2 b7=noC:=ap.2.2.1;have a26:h2 b6=noC:=ap.2.2.2.1;have a25:h2 b5=noC:=ap.2.2.2.2.1;have a23:h2 b3=noC:=ap.2.2.2.2.2.1;clear nd ap;have hi3:=hI.i;obtain⟨T,hT⟩:∃T,T=itS (xsL pl) s (j+1):=⟨_,rfl⟩
  obtain⟨R2,hRR⟩:∃R2,R2=itR (xsL pl) s j:=⟨_,rfl⟩
  rw[← hT]at hi3 ⊢;rw[← hRR]at hr ⊢;obtain⟨pa3,pc3,ma3,mc3,ea3,ec3,xa3,xc3,oa3,oc3,da3,dc3,ta3,tc3,ka3,kc3,ra3,rc3,rfl⟩:=hi3.slices;obtain⟨qoa,qoc,qla,qlc,qsa,qsc,qda,qdc,rfl⟩:=hr.slices;simp only[List.cons_append];subst hR;refine Zuu ZW he hp2 ha hb rfl rfl rfl ?_;refine xx ?_;refine Z0 fun b11 nb11 zb11=>?_;(try simp only[ZU]at nb11);have q18:NeB b11 b8:=Ne.symm nb11.1;have q17:NeB b11 b7:=Ne.symm nb11.2.1;have q16:NeB b11 b6:=Ne.symm nb11.2.2.1;have q15:NeB b11 b5:=Ne.symm nb11.2.2.2.1;clear nb11;refine xx ?_;by_cases c2':N≤j
  ·have hk:=hk h2 le2;rw[hw,show N-j=0 by omega,whN]at hk;refine xx ?_;refine VJ (Za.tail _ _ _) ?_;refine⟨PH.le_refl _,_::whO b8 b7 b6 b5 b3 N s ⟨.slice pa s.purses.length pc,.slice ma s.members.length mc,.slice ea s.entry.length ec,.slice xa s.exit.length xc,.slice oa s.pool.length oc,.slice da s.dues.length dc,.slice ta s.motions.length tc,.slice ka s.marks.length kc,.slice ra s.ring.length rc⟩ L,rfl,.inr ⟨rfl,?_⟩⟩;refine⟨.done,some (.exit 0),_,rfl,by decide,?_⟩;refine xx ?_;exact ZO (ZO (ZO (ZO (ZO (ZP hk)))))
  have hw2:whN (xsL pl) s (N-j) j=if R2.quo=true then ((j:Int)+1,true,0) else whN (xsL pl) s (N-(j+1)) (j+1):=by
   rw[show N-j=(N-(j+1))+1 by omega,whN,if_pos hep,← hRR]
  cases c3':R2.quo with
  | true =>
   have hk:=hk h2 le2;rw[hw,hw2,if_pos c3']at hk;refine xx ?_;refine VJ (Za.tail _ _ _) ?_;refine⟨PH.le_refl _,_::⟨b8,40,[.int .i64 0],1⟩::⟨b7,4,[.bool true],1⟩::⟨b6,3,[.int .i64 (j+1)],1⟩::⟨b5,3,[.int .i64 N],1⟩::⟨b3,34,stC s ⟨.slice pa s.purses.length pc,.slice ma s.members.length mc,.slice ea s.entry.length ec,.slice xa s.exit.length xc,.slice oa s.pool.length oc,.slice da s.dues.length dc,.slice ta s.motions.length tc,.slice ka s.marks.length kc,.slice ra s.ring.length rc⟩,41⟩::L,rfl,.inr ⟨rfl,?_⟩⟩;refine⟨.done,some .ret,_,rfl,by decide,?_⟩;refine xx ?_;exact ZO (ZO (ZO (ZO (ZO (ZP hk)))))
  | false =>
   refine xx ?_;refine VJ (Za.tail _ _ _) ?_;refine⟨PH.le_refl _,_::whO b8 b7 b6 b5 b3 N s ⟨.slice pa s.purses.length pc,.slice ma s.members.length mc,.slice ea s.entry.length ec,.slice xa s.exit.length xc,.slice oa s.pool.length oc,.slice da s.dues.length dc,.slice ta s.motions.length tc,.slice ka s.marks.length kc,.slice ra s.ring.length rc⟩ L,rfl,.inl ⟨rfl,by omega,rfl,?_⟩⟩;rw[hw,hw2,if_neg (by rw[c3'];decide)]
 ·rintro j LL h2 M u3 q3 hj ⟨rfl,hw⟩ le2 iz rz hep nd ap
  try simp only at nd ap ⊢
  have a28:h2 b8=noC:=ap.2.1;have a27:h2 b7=noC:=ap.2.2.1;have a26:h2 b6=noC:=ap.2.2.2.1;have a25:h2 b5=noC:=ap.2.2.2.2.1;have a23:h2 b3=noC:=ap.2.2.2.2.2.1;clear nd ap;obtain⟨pa3,pc3,ma3,mc3,ea3,ec3,xa3,xc3,oa3,oc3,da3,dc3,ta3,tc3,ka3,kc3,ra3,rc3,rfl⟩:=iz.slices;obtain⟨qoa,qoc,qla,qlc,qsa,qsc,qda,qdc,rfl⟩:=rz.slices;simp only[List.cons_append];subst hR;refine Zuu ZW he hp2 ha hb rfl rfl rfl ?_;refine xx ?_;refine Z0 fun b11 nb11 zb11=>?_;(try simp only[ZU]at nb11);have q18:NeB b11 b8:=Ne.symm nb11.1;have q17:NeB b11 b7:=Ne.symm nb11.2.1;have q16:NeB b11 b6:=Ne.symm nb11.2.2.1;have q15:NeB b11 b5:=Ne.symm nb11.2.2.2.1;clear nb11;refine xx ?_;by_cases c2':N≤j
  ·have hk:=hk h2 le2;rw[hw,show N-j=0 by omega,whN]at hk;refine xx ?_;refine VJ (Za.tail _ _ _) ?_;refine⟨PH.le_refl _,_::whO b8 b7 b6 b5 b3 N s ⟨.slice pa s.purses.length pc,.slice ma s.members.length mc,.slice ea s.entry.length ec,.slice xa s.exit.length xc,.slice oa s.pool.length oc,.slice da s.dues.length dc,.slice ta s.motions.length tc,.slice ka s.marks.length kc,.slice ra s.ring.length rc⟩ L,rfl,rfl,?_⟩;refine⟨.done,some (.exit 0),_,rfl,by decide,?_⟩;refine xx ?_;exact ZO (ZO (ZO (ZO (ZO (ZP hk)))))
  have hw2:whN (xsL pl) s (N-j) j=(0,false,200):=by
   rw[show N-j=(N-(j+1))+1 by omega,whN,if_neg hep]
  have hk:=hk h2 le2;rw[hw,hw2]at hk;refine xx ?_;refine Ym (.tk 0 (.o1 1 (.o2 2 (.o2 3 (.o2 4 (.fin) (.nil)) (.nil)) (.nil)) (.o2 2 (.o1 1 (.o2 3 (.o2 4 (.fin) (.nil)) (.nil)) (.o2 3 (.o1 1 (.o2 4 (.fin) (.nil)) (.nil)) (.nil))) (.nil)))) (by kernel_rfl) (by kernel_rfl) _ (Za.refl _ _) ?_;refine xx ?_
  repeat' first
   | with_reducible refine Yf ?_ ?_
   | with_reducible refine xkp (Za.refl _ _) ?_
   | simp -dsimp -implicitDefEqProofs (disch:=first|with_reducible assumption|omega) [go_sem]
   | fail
  all_goals
   refine VJ (Za.tail _ _ _) ?_;refine⟨PH.le_refl _,_::⟨b8,40,[.int .i64 200],1⟩::⟨b7,4,[.bool false],1⟩::⟨b6,3,[.int .i64 0],1⟩::⟨b5,3,[.int .i64 N],1⟩::⟨b3,34,stC s ⟨.slice pa s.purses.length pc,.slice ma s.members.length mc,.slice ea s.entry.length ec,.slice xa s.exit.length xc,.slice oa s.pool.length oc,.slice da s.dues.length dc,.slice ta s.motions.length tc,.slice ka s.marks.length kc,.slice ra s.ring.length rc⟩,41⟩::L,rfl,rfl,?_⟩;refine⟨.done,some .ret,_,rfl,by decide,?_⟩;refine xx ?_;exact ZO (ZO (ZO (ZO (ZO (ZP hk)))))
end Go.X
set_option maxRecDepth 100000
namespace Go.X
open Go.RowKit Go.Proofs Go.Bl Go.Proofs.Tryz
variable {L:Own} {h:PH} {K:PK}
theorem Zwh:Zef [[1],[3]] simpS 5=(2,true,0):=by decide +kernel
theorem Ydm (n:Int)(hn:0≤n∧n≤255):∀z∈[n],IntKind.u8.min≤z∧z≤IntKind.u8.max:=fun z hz=>by
 rw[List.mem_singleton]at hz;rw[hz,show IntKind.u8.min=0 by decide,show IntKind.u8.max=255 by decide];exact hn
theorem Zac (hk:∀h',PH.le h h'→K (.bool true) L h'):Zb prog 13 [] L h K:=by
 refine ZR func13 rfl (rs:=[_]) rfl rfl ZW (by kernel_rfl) rfl rfl ?_;refine xx ?_;refine Zhh fun h1 pa0 pc0 fa0 fc0 le1 ig=>?_;refine xx ?_;refine Zjf ig fun h2 u le2 is=>?_;have is0:=is;obtain⟨pa,pc,ma,mc,ea,ec,xa,xc,oa,oc,da,dc,ta,tc,ka,kc,ra,rc,rfl⟩:=is.slices;refine xx ?_;refine Z0 fun b1 nb1 zb1=>?_;(try simp only[ZU]at nb1);refine xx ?_;refine Z0 fun b15 nb15 zb15=>?_;(try simp only[ZU]at nb15);have n151:=nb15.1;refine xx ?_;refine Z0 fun b16 nb16 zb16=>?_;(try simp only[ZU]at nb16);have n165:=nb16.1;refine xx ?_;refine Z0 fun b17 nb17 zb17=>?_;(try simp only[ZU]at nb17);have n176:=nb17.1;have n175:=nb17.2.1;refine xx ?_;refine YB (e:=31) (b:=b17) (sz:=1) (n:=2) (cap:=2) (xs:=[.slice (some ⟨b15,0,none⟩) 1 1,.slice (some ⟨b16,0,none⟩) 1 1]) [] ⟨by decide,by decide⟩ rfl (by decide) zb17 fun h3 le3 sl3 same3=>?_;have a36:h3 b16=noC:=by rw[same3 b16 n176];exact zb16
 have a35:h3 b15=noC:=by rw[same3 b15 n175];exact zb15
 refine YB (e:=5) (b:=b16) (sz:=1) (n:=1) (cap:=1) (xs:=[.int .u8 3]) [] ⟨by decide,by decide⟩ rfl (by decide) a36 fun h4 le4 sl4 same4=>?_;have a45:h4 b15=noC:=by rw[same4 b15 n165];exact a35
 refine YB (e:=5) (b:=b15) (sz:=1) (n:=1) (cap:=1) (xs:=[.int .u8 1]) [] ⟨by decide,by decide⟩ rfl (by decide) a45 fun h5 le5 sl5 same5=>?_;have hp:Zw h5 (.slice (some ⟨b17,0,none⟩) 2 2) [(.slice (some ⟨b15,0,none⟩) 1 1,[1]),(.slice (some ⟨b16,0,none⟩) 1 1,[3])] :=
  ⟨sl3.up (le4.trans le5),fun q hq=>by
   simp only[List.mem_cons,List.not_mem_nil,or_false]at hq;rcases hq with rfl|rfl
   ·exact⟨sl5,Ydm 1 (by decide)⟩
   ·exact⟨sl4.up le5,Ydm 3 (by decide)⟩⟩
 have le25:=le3.trans (le4.trans le5);refine Zuq (s:=simpS) (pl:=[(.slice (some ⟨b15,0,none⟩) 1 1,[1]),(.slice (some ⟨b16,0,none⟩) 1 1,[3])]) ⟨.slice pa simpS.purses.length pc,.slice ma simpS.members.length mc,.slice ea simpS.entry.length ec,.slice xa simpS.exit.length xc,.slice oa simpS.pool.length oc,.slice da simpS.dues.length dc,.slice ta simpS.motions.length tc,.slice ka simpS.marks.length kc,.slice ra simpS.ring.length rc⟩ 5 (is0.up le25) Zgb (.inl (by decide)) hp (.inl (by decide)) fun h6 le6=>?_;rw[show Zef (xsL [(.slice (some ⟨b15,0,none⟩) 1 1,[1]),(.slice (some ⟨b16,0,none⟩) 1 1,[3])]) simpS 5=(2,true,0) from Zwh];refine xx ?_;refine Zgj ?_;refine xx ?_;exact ZO (ZP (hk h6 (le1.trans (le2.trans (le25.trans le6)))))
theorem Zfk (q:Zd)(hk:K (W5 q) L h):Zb prog 49 [W5 q] L h K:=by
 refine ZR func49 rfl (rs:=[_]) rfl rfl ZW (by kernel_rfl) rfl rfl ?_;refine xx ?_;refine Z0 fun b1 nb1 zb1=>?_;(try simp only[ZU]at nb1);refine xx ?_;refine Z0 fun b2 nb2 zb2=>?_;(try simp only[ZU]at nb2);refine xx ?_;exact ZO (ZO (ZP hk))
theorem J9 (pv sv xv:Value)(hP:∃p:Zd,pv=W5 p∧Zh p)(hS:∃s:Zc,sv=Zbq s∧Ze s)
  (hX:∃q:Bool×Int,xv = .agg #[.bool q.1,.int .i64 q.2]∧(-9223372036854775808≤q.2∧q.2≤9223372036854775807))
  (hk:∀h',PH.le h h'→K (.bool true) L h'):Zb prog 11 [pv,sv,xv] L h K:=by
 obtain⟨p,rfl,ok⟩:=hP;obtain⟨m,rfl,mo⟩:=hS;obtain⟨⟨em,most⟩,rfl,r1,r2⟩:=hX;simp only at r1 r2 ⊢;refine ZR func11 rfl (rs:=[_]) rfl rfl ZW (by kernel_rfl) rfl rfl ?_;refine xx ?_;refine Z0 fun b3 nb3 zb3=>?_;(try simp only[ZU]at nb3);refine xx ?_;refine Z0 fun b4 nb4 zb4=>?_;(try simp only[ZU]at nb4);have n43:=nb4.1;refine xx ?_;refine Z0 fun b5 nb5 zb5=>?_;(try simp only[ZU]at nb5);have n54:=nb5.1;have n53:=nb5.2.1;refine xx ?_;refine Zb.ap (Zac fun h1 le1 ap=>?_);have p15:h1 b5=noC:=ap.1;have p14:h1 b4=noC:=ap.2.1;have p13:h1 b3=noC:=ap.2.2.1;clear ap;refine xx ?_;refine Zb.ap (J6 p ok mo em most fun h2 le2 ap=>?_);have p25:h2 b5=noC:=ap.1;have p24:h2 b4=noC:=ap.2.1;have p23:h2 b3=noC:=ap.2.2.1;clear ap;refine xx ?_;refine Zfk p ?_;refine xx ?_;refine Z0 fun b10 nb10 zb10=>?_;(try simp only[ZU]at nb10);have n105:=nb10.1;have n104:=nb10.2.1;have n103:=nb10.2.2.1;refine xx ?_;refine Zb.ap (Zno p ok fun h3 le3 ap=>?_);have p310:h3 b10=noC:=ap.1;have p35:h3 b5=noC:=ap.2.1;have p34:h3 b4=noC:=ap.2.2.1;have p33:h3 b3=noC:=ap.2.2.2.1;clear ap;have hk3:=hk h3 (le1.trans (le2.trans le3));by_cases hr:Yb p=true
 rotate_left
 ·have hr':Yb p=false:=by simpa using hr
  have e:VV p m em most=(0,false,70):=by rw[VV,if_neg hr]
  rw[hr',e];refine xx ?_;exact ZO (ZO (ZO (ZO (ZP hk3))))
 rw[hr];by_cases c1:most<0
 ·have e:VV p m em most=(0,false,2):=by rw[VV,if_pos hr,if_pos (.inl c1)]
  rw[e];refine xx ?_;exact ZO (ZO (ZO (ZO (ZP hk3))))
 by_cases c2:1000<most
 ·have e:VV p m em most=(0,false,2):=by rw[VV,if_pos hr,if_pos (.inr c2)]
  rw[e];refine xx ?_;exact ZO (ZO (ZO (ZO (ZP hk3))))
 obtain⟨N,rfl⟩:∃N:Nat,most=N:=⟨most.toNat,by omega⟩
 obtain⟨mode,hmode⟩:∃mode:Int,mode=(if em=true then 4 else 3):=⟨_,rfl⟩
 cases hl:Gq p mode m N with
 | none =>
  have e:VV p m em N=(0,false,0):=by rw[VV,if_pos hr,if_neg (by omega),Int.toNat_natCast,← hmode,hl]
  have eI:Zki p mode m N = -1:=by rw[Zki,hl]
  rw[e]
  cases em
  all_goals
   first
   | obtain rfl:mode=3:=hmode
   | obtain rfl:mode=4:=hmode
   refine xx ?_;refine Zcu p ok hr mo _ N (by omega) fun h4 le4=>?_;have hk4:=hk h4 (le1.trans (le2.trans (le3.trans le4)));rw[eI];simp -dsimp -implicitDefEqProofs (disch:=first|with_reducible assumption|omega) [go_sem,Yi];exact ZO (ZO (ZO (ZO (ZP hk4))))
 | some k =>
  have e:VV p m em N=((k:Int),true,0):=by rw[VV,if_pos hr,if_neg (by omega),Int.toNat_natCast,← hmode,hl]
  have eI:Zki p mode m N=(k:Int):=by rw[Zki,hl]
  rw[e]
  cases em
  all_goals
   first
   | obtain rfl:mode=3:=hmode
   | obtain rfl:mode=4:=hmode
   refine xx ?_;refine Zcu p ok hr mo _ N (by omega) fun h4 le4=>?_;have hk4:=hk h4 (le1.trans (le2.trans (le3.trans le4)));rw[eI];simp -dsimp -implicitDefEqProofs (disch:=first|with_reducible assumption|omega) [go_sem,Yi];exact ZO (ZO (ZO (ZO (ZP hk4))))
theorem Zxa (p:Zd)(ok:Zh p)(hk:∀h',PH.le h h'→K (.tuple #[.int .i64 (if Yb p=true then (Wl p:Int) else 0),.int .i64 (if Yb p=true then 0 else 70)]) L h'):Zb prog 52 [W5 p] L h K:=by
 refine ZR func52 rfl (rs:=[_,_]) rfl rfl ZW (by kernel_rfl) rfl rfl ?_;refine xx ?_;refine Z0 fun b1 nb1 zb1=>?_;(try simp only[ZU]at nb1);refine xx ?_;refine Zb.ap (J0 p ok fun h1 le1 ap=>?_);have p1:h1 b1=noC:=ap.1;clear ap;have hk1:=hk h1 le1;by_cases hr:Yb p=true
 ·obtain⟨s1,s2⟩:=UX hr;rw[if_pos hr,if_pos hr]at hk1;rw[if_pos hr];refine xx ?_;refine Zmm p ok s1 s2 ?_;refine xx ?_;exact ZO (ZP hk1)
 ·rw[if_neg hr,if_neg hr]at hk1;rw[if_neg hr];refine xx ?_;exact ZO (ZP hk1)
theorem Zid (c q:Int)(h1:1≤c∧c≤64)(hq:q=6/c+1)(hk:K (.tuple #[.int .i64 q,.int .i64 0]) L h):Zb prog 54 [.int .i64 6,.int .i64 c] L h K:=by
 have q0:0≤6/c:=Int.ediv_nonneg (by decide) (by omega);have q1:6/c≤6:=Int.ediv_le_self _ (by decide);have w:IntKind.i64.wrap (6/c)=6/c:=Zkw _ (Int.le_trans (by decide) q0) (Int.le_trans q1 (by decide));have w2:IntKind.i64.wrap (IntKind.i64.wrap (6/c)+1)=6/c+1:=by
  rw[w,Zkw _ (Int.le_trans (by decide) (Int.add_le_add_right q0 1)) (Int.le_trans (Int.add_le_add_right q1 1) (by decide))]
 rw[hq]at hk;refine ZR func54 rfl (rs:=[_,_]) rfl rfl ZW (by kernel_rfl) rfl rfl ?_;simp -dsimp -implicitDefEqProofs (disch:=first|with_reducible assumption|omega) [go_sem,w];exact ZP hk
theorem Ybb {xs:List Int}{bl:Nat}(o:Option (Nat×Nat))(ho:okO o xs.length)(hb:h bl=noC)(hk:K (.int .i64 xs.length) (lnB bl o xs.length::lnL o xs L) h):Zb prog 55 [.pointer (some ⟨bl,0,none⟩)] (lnB bl o xs.length::lnL o xs L) h K:=by
 obtain⟨a,c,ea,hac⟩:=Z8 ho;refine ZR func55 rfl (rs:=[_]) rfl rfl ZW (by kernel_rfl) rfl rfl ?_;refine xx ?_;rw[ea];refine xx ?_;exact ZP hk
theorem Ydu {c:Nat}(hc:1≤c)(k:Nat)(hk:k≤6/c+1):(0<7-k*c→k+1≤6/c+1)∧(¬ 0<7-k*c→k=6/c+1):=by
 have h1:k≤6/c↔k*c≤6:=Nat.le_div_iff_mul_le (by omega)
 constructor
 ·intro h;have:=h1.2 (by omega);omega
 ·intro h;have h2:¬k≤6/c:=fun x=>by have:=h1.1 x;omega
  omega
theorem JC (pv sv:Value)(c:Int)(hP:∃p:Zd,pv=W5 p∧Zh p)(hS:∃s:Zc,sv=Zbq s∧Ze s)(hc : -9223372036854775808≤c∧c≤9223372036854775807)
  (hk:∀h',PH.le h h'→K (.bool true) L h'):Zb prog 12 [pv,sv,.int .i64 c] L h K:=by
 obtain⟨p,rfl,ok⟩:=hP;obtain⟨m,rfl,mo⟩:=hS;have ue:=mo.u m.eff (by simp);have uinc:=ok.w p.inc (by simp [YA]);refine ZR func12 rfl (rs:=[_]) rfl rfl ZW (by kernel_rfl) rfl rfl ?_;refine xx ?_;refine Z0 fun b3 nb3 zb3=>?_;(try simp only[ZU]at nb3);refine xx ?_;refine Z0 fun b4 nb4 zb4=>?_;(try simp only[ZU]at nb4);have n43:=nb4.1;refine xx ?_;refine Zb.ap (Zac fun h1 le1 ap=>?_);have p14:h1 b4=noC:=ap.1;have p13:h1 b3=noC:=ap.2.1;clear ap;refine xx ?_;refine Zb.ap (Zxa p ok fun h2 le2 ap=>?_);have p24:h2 b4=noC:=ap.1;have p23:h2 b3=noC:=ap.2.1;clear ap p14 p13;have hk2:=hk h2 (le1.trans le2);by_cases hr:Yb p=true
 rotate_left
 ·rw[if_neg hr,if_neg hr];refine xx ?_;exact ZO (ZO (ZP hk2))
 rw[if_pos hr,if_pos hr];have hinc:=(GD hr).1;by_cases c1:(900:Int)<Wl p
 ·refine xx ?_;exact ZO (ZO (ZP hk2))
 by_cases c2:m.eff<p.inc
 ·refine xx ?_;exact ZO (ZO (ZP hk2))
 by_cases c3:p.maxEff<m.eff
 ·refine xx ?_;exact ZO (ZO (ZP hk2))
 refine xx ?_;refine WE (fun c4=>?_) (fun c4=>?_)
 rotate_left
 ·refine xx ?_;exact ZO (ZO (ZP hk2))
 by_cases c5:p.cap<m.bal
 ·refine xx ?_;exact ZO (ZO (ZP hk2))
 clear hk2;refine xx ?_;have T9:Wl p≤1000:=by omega
 obtain⟨k3,l3,g3⟩:=Zcq hr ok mo (mode:=3) (.inl rfl) (show p.inc≤m.eff by omega) (by omega) (most:=1000) T9;obtain⟨k4,l4,g4⟩:=Zcq hr ok mo (mode:=4) (.inr rfl) (show p.inc≤m.eff by omega) (by omega) (most:=1000) T9;have e3:VV p m false 1000=((k3:Int),true,0):=by rw[VV,if_pos hr,if_neg (by omega),if_neg (by decide),show (1000:Int).toNat=1000 from rfl,l3]
 have e4:VV p m true 1000=((k4:Int),true,0):=by rw[VV,if_pos hr,if_neg (by omega),if_pos rfl,show (1000:Int).toNat=1000 from rfl,l4]
 refine Zb.ap (J6 p ok mo false 1000 fun h3 le3 ap=>?_);have p34:h3 b4=noC:=ap.1;have p33:h3 b3=noC:=ap.2.1;clear ap;rw[e3];refine xx ?_;refine Zb.ap (J6 p ok mo true 1000 fun h4 le4 ap=>?_);have p44:h4 b4=noC:=ap.1;have p43:h4 b3=noC:=ap.2.1;clear ap;rw[e4];have le14:=le1.trans (le2.trans (le3.trans le4));by_cases d1:c<1
 ·refine xx ?_;exact ZO (ZO (ZP (hk h4 le14)))
 by_cases d2:64<c
 ·refine xx ?_;exact ZO (ZO (ZP (hk h4 le14)))
 refine xx ?_;refine Z0 fun b105 nb105 zb105=>?_;(try simp only[ZU]at nb105);refine xx ?_;refine YB (e:=3) (b:=b105) (sz:=1) (n:=7) (cap:=7) (xs:=[.int .i64 5,.int .i64 3,.int .i64 8,.int .i64 1,.int .i64 9,.int .i64 2,.int .i64 7]) [] ⟨by decide,by decide⟩ rfl (by decide) zb105 fun h5 le5 sl5 same5=>?_;have p54:h5 b4=noC:=by rw[same5 b4 nb105.1];exact p44
 have p53:h5 b3=noC:=by rw[same5 b3 nb105.2.1];exact p43
 have iL:Ints h5 .i64 (.slice (some ⟨b105,0,none⟩) 7 7) [5,3,8,1,9,2,7]:=⟨sl5,by decide⟩
 simp only[List.nil_append];refine Znn (xs:=[5,3,8,1,9,2,7]) _ iL (by decide) (by decide) (by decide) fun bl o nbl hbl ho=>?_;refine xx ?_;obtain⟨C,rfl⟩:∃C:Nat,c=C:=⟨c.toNat,by omega⟩
 obtain⟨N,hN⟩:∃N:Nat,N=6/C+1:=⟨_,rfl⟩
 refine Zid C N (by omega) (by rw[hN,Int.natCast_add,Int.natCast_ediv];rfl) ?_;have hC:1≤C:=by omega
 have hN7:N≤7:=by rw[hN];have:=Nat.div_le_self 6 C;omega
 have le15:=le14.trans le5;refine xx ?_;refine YJ (γ:=Nat×PH) (0,h5) (fun y=>y.1≤N∧PH.le h5 y.2∧y.2 bl=noC) (fun y=>[(19,.int .i64 y.1),(15,.pointer (some ⟨bl,0,none⟩)),(2,.int .i64 C),(17,.int .i64 N),(18,.int .i64 0)])
  (fun y=>lnB bl o (([5,3,8,1,9,2,7]:List Int).drop (y.1*C)).length::lnL o (([5,3,8,1,9,2,7]:List Int).drop (y.1*C)) (Yns b4 98 m::⟨b3,24,Jm p,24⟩::L)) (fun y=>y.2) (fun y=>N-y.1) ?_ ?_ ?_ ?_
 ·exact⟨Nat.zero_le _,PH.le_refl _,hbl⟩
 ·simp [Ent,List.lookup,Wv]
 ·simp only[Nat.zero_mul,List.drop_zero];exact Za.refl _ _
 rintro⟨k,h6⟩ ⟨k1,le6,p6⟩;simp only at k1 le6 p6 ⊢;have hl:=Ydu hC k (by rw[← hN];exact k1);rw[← hN]at hl;have ll:(([5,3,8,1,9,2,7]:List Int).drop (k*C)).length=7-k*C:=by rw[List.length_drop];rfl
 obtain⟨xs,hxs⟩:∃xs,xs=([5,3,8,1,9,2,7]:List Int).drop (k*C):=⟨_,rfl⟩
 have hnum:∀z∈xs,-9223372036854775808≤z∧z≤9223372036854775807:=fun z hz=>by
  rw[hxs]at hz;have hz2:=List.mem_of_mem_drop hz;simp only[List.mem_cons,List.not_mem_nil,or_false]at hz2;omega
 have hdr:xs.drop C=([5,3,8,1,9,2,7]:List Int).drop ((k+1)*C):=by rw[hxs,List.drop_drop,Nat.add_mul,Nat.one_mul]
 rw[← hxs]at ll ⊢;have ho6:okO o xs.length:=by
  rw[ll]
  cases o with
  | none=>have:(7:Nat)=0:=ho;omega
  | some q=>have h7:7≤q.2∧q.2≤maxLen:=ho;exact⟨by omega,h7.2⟩
 refine xx ?_;refine Ybb o ho6 p6 ?_;by_cases c7:0<7-k*C
 ·refine xx ?_;refine Zb.ap (Znh o ho6 (by omega) C (by omega) hnum fun h7 r7 le7 i7 ap=>?_);have p7:h7 bl=noC:=ap.1;clear ap;rw[Int.toNat_natCast,hdr];refine xx ?_;exact⟨k+1,h7,⟨hl.1 c7,le6.trans le7,p7⟩,by omega,by simp [Ent,List.lookup],Za.refl _ _⟩
 ·have e:=hl.2 c7;refine xx ?_;exact ZO (Wr (ZO (ZO (ZP (hk h6 (le15.trans le6))))))
end Go.X
