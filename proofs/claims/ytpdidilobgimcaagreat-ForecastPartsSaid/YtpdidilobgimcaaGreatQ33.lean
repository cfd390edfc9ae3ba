/- Lemmas and contracts. Conditions: as each says. -/
import Derived.OrdersIn
import Derived.Test.YtpdidilobgimcaaGreatQ15
set_option linter.unusedVariables false
set_option linter.unusedSimpArgs false
set_option maxHeartbeats 12800000
set_option maxRecDepth 20000
namespace Go.X
open Go.RowKit
variable {P:Program}
theorem Ygy {ρ:Option Nat}{n:Nat}{row:String}{args:Array Value}{w:World}{R:Value→World→Prop}(h:Rows P row args w R):RowsIn (rF ρ) n P row args w R :=
 (fun c cs _=>let ⟨v,w',r,s⟩:=h c cs; ⟨v,w',r,stepsIn_wide.2 s⟩:RowsIn Fence.wide n P row args w R)
theorem Yhd {ρ:Option Nat}{o:Oper}{a:Act}{next:Act→World→Prop}{Q:Exit→Act→World→Prop}{r:Result Next}(hr:o.upon P a next Q r):o.uponIn (rF ρ) 0 P a next Q r:=by
 cases r with
 | ok x w =>
  cases x with
  | value v=>exact hr
  | skip=>exact hr
  | defer d=>exact hr
  | enter f args=>exact⟨JH,JN hr⟩
  | row s args=>exact⟨JH,Ygy hr⟩
  | _=>exact hr.elim
 | halt x w =>
  cases x with
  | panic v=>exact hr
  | _=>exact hr.elim
theorem Ygv {ρ:Option Nat}{ops:Array Oper}{Q:Exit→Act→World→Prop}(hno:¬LetsOut Q)(hnd:∀(j:Nat) (o:Oper),ops[j]?=some o→∀c,o.op ≠ .defer c){i:Nat}{K:Act→World→Prop}{a:Act}{w:World}(hx:wpOp P ops Q i K a w):wpOpIn (rF ρ) 0 P ops Q i K a w:=by
 unfold wpOp at hx;unfold wpOpIn
 cases ho:ops[i]? with
 | none=>rw[ho]at hx;exact hx
 | some o =>
  rw[ho]at hx;simp only at hx ⊢;split
  ·rename_i c;rw[if_pos c]at hx;refine⟨fun _ _=>trivial,?_⟩;rw[Oper.semAt_eq _ _ _ (hnd i o ho)];rcases hx with hx|hx
   ·exact Yhd hx
   ·exact absurd hx.2 hno
  ·rename_i c;rw[if_neg c]at hx;exact⟨fun _ _=>trivial,hx⟩
theorem Zlm {ρ:Option Nat}{ops:Array Oper}{Q:Exit→Act→World→Prop}(hno:¬LetsOut Q)(hnd:∀(j:Nat) (o:Oper),ops[j]?=some o→∀c,o.op ≠ .defer c):∀(fuel:Nat) (listed:Array Bool) (a:Act) (w:World),wpAny P .any ops Q fuel listed a w→wpAnyIn (rF ρ) 0 P .any ops Q fuel listed a w
 | 0,_,_,_,hx=>hx
 | fuel+1,listed,a,w,hx=>⟨hx.1,fun i hi=>wpOpIn_mono (fun a w=>Zlm hno hnd fuel _ a w) (Ygv hno hnd (hx.2 i hi))⟩
def Zli:Op→Bool
 | .defer _=>false
 | _=>true
theorem Zbh {ρ:Option Nat}(hm:P.follows .mixedOrders=true){nt:Nat}{M:List Nat}{W0:World}{id:Nat}{ops:Array Oper}{Q:UR}{E:Env}{L:Own}{h:PH}{a:Act}{W:World}(hw:wfC nt (.region id ops true)=true)
  (hnd:(ops.toList.all fun o=>Zli o.op)=true) (hnq:(ops.toList.all fun o=>Vs o.op)=false)
  (hx:xC P (.region id ops true) Q E L h) (ok:Ok nt M W0 E L h a W):(Code.region id ops true).wpIn (rF ρ) 0 P (Up nt M W0 Q) a W:=by
 rcases hx with⟨hB,hq,hx⟩ | ⟨hs,T,hT,I,hI,s,E0,L0,h0,hE0,hD0,hK0,hx⟩
 ·rw[hnq]at hq;cases hq
 ·have ok0:Ok nt M W0 E0 L0 h0 a { W with drawn:=W.drawn+1 }:=by
   have ok1:Ok nt M W0 E L h a { W with drawn:=W.drawn+1 }:=⟨ok.env,ok.size,ok.marks.heap rfl fun e he=>List.mem_map_of_mem he,⟨ok.good.sub,ok.good.own,ok.good.nodup,ok.good.apart⟩,⟨ok.kept.os,ok.kept.tape,ok.kept.output,ok.kept.size,ok.kept.block⟩,ok.fresh⟩
   rcases hE0 with rfl|hE0
   ·obtain⟨g,f⟩:=hD0 _ ok1.good;refine⟨ok1.env,ok1.size,ok1.marks.heap rfl (by first|exact f|exact hf),g,ok1.kept,fun e he=>?_⟩;obtain⟨e',he',hb⟩:=List.mem_map.1 (f e he);rw[← hb];exact ok1.fresh e' he'
   ·exact ok1.weaken hE0 hD0
  have h1:wpAny P .any ops.toList.toArray (UpN nt M W0 fun e E L h=>match e with | .normal=>I E L h|_=>False) ops.size (Array.replicate ops.size false) a { W with drawn:=W.drawn+1 }:=by
   cases s with
   | none=>exact(VG (P:=P) (Q:=fun e E L h=>match e with | .normal=>I E L h|_=>False) (ops:=ops.toList) hw (by simpa using hs) T true ops.size (Array.replicate ops.size false) (by simpa using hT) hx ok0).1 rfl
   | some p=>exact JQ _ _ _ _ ((W6 (P:=P) (L0:=p.1) (h0:=p.2) (Q:=fun e E L h=>match e with | .normal=>I E L h|_=>False) (ops:=ops.toList) hw (by simpa using hs) T true ops.size (Array.replicate ops.size false) (by simpa using hT) hx ok0 (hK0 _ ok0.good)).1 rfl)
  have hnd':∀(j:Nat) (o:Oper),ops.toList.toArray[j]?=some o→∀c,o.op ≠ .defer c:=fun j o ho c e=>by
   have hmem:o∈ops.toList:=by
    rw[List.getElem?_toArray]at ho;exact List.mem_of_getElem? ho
   have:=List.all_eq_true.1 hnd o hmem;rw[e]at this
   cases this
  have h2:=wpIn_region_any (F:=rF ρ) (n:=0) (id:=id) hm (by simpa using Zlm (ρ:=ρ) (fun⟨_,_,hq⟩=>by obtain⟨_,_,_,hq,_⟩:=hq.2;exact hq) hnd' _ _ _ _ h1);refine wpIn_mono h2 fun e a' w' hq=>?_;obtain⟨E1,L1,h1,hq1,ok1⟩:=hq.2
  cases e with
  | normal =>
   obtain⟨E2,L2,h2,hE,hD,hQ⟩:=hI E1 L1 h1 hq1;refine⟨E2,L2,h2,hQ,?_⟩;rcases hE with rfl|hE
   ·obtain⟨g,f⟩:=hD w' ok1.good;refine⟨ok1.env,ok1.size,ok1.marks.heap rfl (by first|exact f|exact hf),g,ok1.kept,fun e he=>?_⟩;obtain⟨e',he',hb⟩:=List.mem_map.1 (f e he);rw[← hb];exact ok1.fresh e' he'
   ·exact ok1.weaken hE hD
  | _=>exact hq1.elim
def WO:Code→Bool
 | .region _ ops d => !d||((ops.toList.all fun o=>Zli o.op) && !(ops.toList.all fun o=>Vs o.op))
 | .seq a b | .cond _ a b=>WO a&&WO b
 | .block _ c | .loop c=>WO c
 | .rangeFunc .. | .scope _=>false
 | _=>true
theorem Y5 (hm:P.follows .mixedOrders=true){nt:Nat}{M:List Nat}{W0:World}{ρ:Option Nat}(hrange:ρ=none→∀ {g:Operand} {ps:Array Tmp} {assign body:Code} {Q:UR} {E:Env} {L:Own} {h:PH} {a:Act} {W:World},
      wfC nt (.rangeFunc g ps assign body)=true→xC P (.rangeFunc g ps assign body) Q E L h→Ok nt M W0 E L h a W→(Code.rangeFunc g ps assign body).wpIn (rF ρ) 0 P (Up nt M W0 Q) a W):∀ {c:Code} {Q:UR} {E:Env} {L:Own} {h:PH} {a:Act} {W:World},wfC nt c=true→(ρ=none∨WO c=true) →
    xC P c Q E L h→Ok nt M W0 E L h a W→c.wpIn (rF ρ) 0 P (Up nt M W0 Q) a W
  | .skip,Q,E,L,h,a,W,_,_,hx,ok=>wpIn_skip ⟨E,L,h,hx,ok⟩
  | .label _,Q,E,L,h,a,W,_,_,hx,ok=>wpIn_label ⟨E,L,h,hx,ok⟩
  | .exit id,Q,E,L,h,a,W,_,_,hx,ok=>wpIn_exit ⟨E,L,h,hx,ok⟩
  | .ret,Q,E,L,h,a,W,_,_,hx,ok=>wpIn_ret ⟨E,L,h,hx,ok⟩
  | .seq x y,Q,E,L,h,a,W,hw,hn,hx,ok=>by
    simp only[wfC,Bool.and_eq_true]at hw;simp only[WO,Bool.and_eq_true]at hn;refine wpIn_seq (wpIn_mono (Y5 hm hrange hw.1 (hn.imp id And.left) hx ok) fun e a' W' hq=>?_);obtain⟨E',L',h',hq,ok'⟩:=hq
    cases e<;>first|exact Y5 hm hrange hw.2 (hn.imp id And.right) hq ok' | exact⟨E',L',h',hq,ok'⟩
  | .cond c x y,Q,E,L,h,a,W,hw,hn,hx,ok=>by
    simp only[wfC,Bool.and_eq_true]at hw;simp only[WO,Bool.and_eq_true]at hn;obtain⟨t,ht,h1,h2⟩:=ZV ok.env (x:=c) hx
    cases t with
    | true=>exact wpIn_cond_true ht (Y5 hm hrange hw.1 (hn.imp id And.left) (h1 rfl) ok)
    | false=>exact wpIn_cond_false ht (Y5 hm hrange hw.2 (hn.imp id And.right) (h2 rfl) ok)
  | .block id c,Q,E,L,h,a,W,hw,hn,hx,ok=>by
    refine wpIn_block (wpIn_mono (Y5 hm hrange (c:=c) hw hn hx ok) fun e a' W' hq=>?_);obtain⟨E',L',h',hq,ok'⟩:=hq
    cases e with
    | exit i =>
      simp only[inB]at hq;simp only[Exit.inBlock];split
      · rename_i hi;rw[if_pos hi]at hq;exact⟨E',L',h',hq,ok'⟩
      · rename_i hi;rw[if_neg hi]at hq;exact⟨E',L',h',hq,ok'⟩
    | _=>exact⟨E',L',h',hq,ok'⟩
  | .loop c,Q,E,L,h,a,W,hw,hn,hx,ok=>by
    obtain⟨I,⟨n0,h0⟩,hround⟩:=hx;refine wpIn_loop (fun a' W'=>∃n E L h,I n E L h∧Ok nt M W0 E L h a' W') (fun a' W'=>leastOf fun n=>∃E L h,I n E L h∧Ok nt M W0 E L h a' W') ⟨n0,E,L,h,h0,ok⟩ ?_;intro a1 W1 hI;obtain⟨E1,L1,h1,hI1,ok1⟩:=(leastOf_spec (p:=fun n=>∃E L h,I n E L h∧Ok nt M W0 E L h a1 W1) hI).1;obtain⟨E2,L2,h2,hE,hD,hx⟩:=hround _ E1 L1 h1 hI1;refine wpIn_mono (Y5 hm hrange (c:=c) hw hn hx (ok1.weaken hE hD)) fun e a' W' hq=>?_;obtain⟨E',L',h',hq,ok'⟩:=hq
    cases e with
    | normal =>
      obtain⟨m,hlt,hI'⟩:=hq;have hex:∃n,∃E L h,I n E L h∧Ok nt M W0 E L h a' W':=⟨m,E',L',h',hI',ok'⟩
      exact show (∃n,∃E L h,I n E L h∧Ok nt M W0 E L h a' W')∧_<_ from⟨hex,Nat.lt_of_le_of_lt ((leastOf_spec hex).2 m ⟨E',L',h',hI',ok'⟩) hlt⟩
    | exit id=>exact⟨E',L',h',hq,ok'⟩
    | goto l=>exact⟨E',L',h',hq,ok'⟩
    | ret=>exact⟨E',L',h',hq,ok'⟩
    | panic ch=>exact⟨E',L',h',hq,ok'⟩
    | outgrown=>exact⟨E',L',h',hq,ok'⟩
  | .region id ops false,Q,E,L,h,a,W,hw,_,hx,ok=>wpIn_region_list (UN (ops:=ops.toList) hw hx ok)
  | .region id ops true,Q,E,L,h,a,W,hw,hn,hx,ok=>by
    rcases hn with rfl|hn
    · exact wpIn_wide.2 (J6 hm hw hx ok)
    · simp only[WO,Bool.not_true,Bool.false_or,Bool.and_eq_true,Bool.not_eq_true']at hn;exact Zbh hm hw hn.1 hn.2 hx ok
  | .rangeFunc g ps assign body,Q,E,L,h,a,W,hw,hn,hx,ok=>by
    rcases hn with hn|hn
    · exact hrange hn hw hx ok
    · simp [WO]at hn
  | .scope c,Q,E,L,h,a,W,hw,hn,hx,ok=>by
    rcases hn with rfl|hn
    · refine wpIn_wide.2 (wp_scope_straight (wpIn_wide.1 (wpIn_mono (Y5 hm hrange (c:=c) hw (.inl rfl) hx ok) fun e a' W' hq=>?_)));obtain⟨E',L',h',hq,ok'⟩:=hq
      cases e with
      | goto l=>exact hq.elim
      | _=>exact⟨E',L',h',hq,ok'⟩
    · simp [WO]at hn
  | .goto _,_,_,_,_,_,_,_,_,hx,_=>hx.elim
  | .refuse _,_,_,_,_,_,_,_,_,hx,_=>hx.elim
theorem Zgc (hm:P.follows .mixedOrders=true){l D fn:Nat}{tmps:Array Value}{ps:Array Tmp}{assign body:Code}{E:Env}{args:List Value}{L:Own}{h:PH}{K:PK}
  (he:∀i v,E.lookup i=some v→tmps.getD i undef=v) (hp:(ps.all fun p=>decide (p<tmps.size))=true) (ha:wfC tmps.size assign=true) (hb:wfC tmps.size body=true)
  (na:WO assign=true) (nb:WO body=true) (hl:ps.size=args.length)
  (hx:xC P assign (fun e E1 L1 h1=>match e with | .normal=>xC P body (G1 l (VK fn tmps ps assign body D) K) E1 L1 h1|_=>False) (U7 ps.toList args E) L h) :
  YSpec P l args (Gw l (VK fn tmps ps assign body D .ready none)::L) h K:=by
 refine⟨trivial,fun W hg=>?_⟩;have hl0:=(hg.own _ (by simp)).at (e:=Gw l (VK fn tmps ps assign body D .ready none)) rfl rfl;have hlL:l ∉ L.map Zl.b:=(List.nodup_cons.1 hg.nodup).1;have hlt:l<W.heap.size:=(Array.getElem?_eq_some_iff.1 hl0).1;have hg0:Zk L h W:=⟨hg.sub,fun e he=>hg.own e (List.mem_cons_of_mem _ he),(List.nodup_cons.1 hg.nodup).2,fun e he=>hg.apart e (List.mem_cons_of_mem _ he)⟩
 have hy:=run_yield (P:=P) (args:=args.toArray) hl0 (by simp [hl]);refine⟨fn,_,assign,body,hy,?_⟩;have hf:(ps.zip args.toArray).foldl (fun tmps (t,a)=>tmps.setIfInBounds t a) tmps=((ps.toList.zip args).foldl (fun t (q:Tmp×Value)=>t.setIfInBounds q.1 q.2) tmps):=by
  rw[← Array.foldl_toList,Array.toList_zip]
 have hb0:=GV ps.toList args E tmps he (fun p hpm=>by
  have:=Array.all_eq_true'.1 hp p (by simpa using hpm)
  simpa using this)
 rw[← hf]at hb0;have ok:Ok tmps.size (L.map Zl.b) W (U7 ps.toList args E) L h { tmps:=(ps.zip args.toArray).foldl (fun tmps (t,a)=>tmps.setIfInBounds t a) tmps,defers:=[] } W :=
  ⟨hb0.1,hb0.2,Zv.nil _ _ _,hg0,Zu.refl _ _,fun e he=>Or.inl (List.mem_map_of_mem he)⟩
 refine roundIn_of_wpIn (F:=Fence.wide) trivial (wpIn_mono (Y5 (ρ:=some l) hm (fun h=>by cases h) ha (.inr na) hx ok) fun e a1 W1 hq=>?_);obtain⟨E1,L1,h1,hq,ok1⟩:=hq
 cases e with
 | normal =>
  have hl1:W1.heap[l]?=some (VK fn tmps ps assign body D .ready none):=(ok1.kept.block l hlt hlL).trans hl0;have hlL1:l ∉ L1.map Zl.b:=fun hmem=>by
   obtain⟨e,he,hb⟩:=List.mem_map.1 hmem;rcases ok1.fresh e he with h2|h2
   ·rw[hb]at h2;exact hlL h2
   ·omega
  have hlt1:l<W1.heap.size:=(Array.getElem?_eq_some_iff.1 hl1).1;refine⟨W1.putObj l (VK fn tmps ps assign body D .busy none),run_beginRound hl1 rfl,?_⟩;obtain⟨W2,hW2⟩:∃W2,W1.putObj l (VK fn tmps ps assign body D .busy none)=W2:=⟨_,rfl⟩
  have hl2:W2.heap[l]?=some (VK fn tmps ps assign body D .busy none):=by rw[← hW2];exact World.putObj_heap_same hlt1
  have hs2:W2.heap.size=W1.heap.size:=by rw[← hW2];simp
  have hg2:Zk L1 h1 W2:=by rw[← hW2];exact Vr _ ok1.good hlL1 hl1 (fun _ _ _ h=>by cases h)
  have hWs:W.heap.size≤W2.heap.size:=by rw[hs2];exact ok1.kept.size
  obtain⟨V,hV⟩:∃V:World,{ W2 with heap:=W2.heap.extract 0 W.heap.size }=V:=⟨_,rfl⟩
  have hVs:V.heap.size=W.heap.size:=by rw[← hV];simp;omega
  have hVk:∀k,k<W.heap.size→V.heap[k]?=W2.heap[k]?:=fun k hk=>by rw[← hV];simp [Array.getElem?_extract,hk];omega
  have ok2:Ok tmps.size (L.map Zl.b) V E1 L1 h1 a1 W2:=by
   refine⟨ok1.env,ok1.size,?_,hg2,⟨by rw[← hV],by rw[← hV],by rw[← hV],by omega,fun k hk _=>(hVk k (by omega)).symm⟩,fun e he=>by rw[hVs];exact ok1.fresh e he⟩;rw[hVs,← hW2];refine GW _ ok1.marks fun hd=>?_;obtain⟨D',e,_,h0,_⟩:=ok1.marks.at' _ hd;injection e with e
   injection e with e
   omega
  rw[hW2];refine wpIn_mono (Y5 (ρ:=some l) hm (fun h=>by cases h) hb (.inr nb) hq ok2) fun e a3 W3 hq3=>?_;obtain⟨E3,L3,h3,hq3,ok3⟩:=hq3;have hl3:W3.heap[l]?=some (VK fn tmps ps assign body D .busy none):=((ok3.kept.block l (by omega) hlL).trans (hVk l hlt)).trans hl2;have hlt3:l<W3.heap.size:=(Array.getElem?_eq_some_iff.1 hl3).1;have fin:∀(v:Bool) (st:LoopState) (jump:Option Code),Zzj K v l (VK fn tmps ps assign body D st jump) L3 h3 →
    ∃r L' h',Ending.returned (.bool v) = .returned r∧K r L' h'∧Step (Gw l (VK fn tmps ps assign body D .ready none)::L) W L' h' (W3.putObj l (VK fn tmps ps assign body D st jump)):=by
   rintro v st jump ⟨L4,h4,hd,hk⟩;obtain⟨hg4,hb4⟩:=hd W3 ok3.good;have fr4:∀e∈L4,e.b∈L.map Zl.b∨W.heap.size≤e.b:=fun e he=>by
    obtain⟨e3,he3,hb3⟩:=List.mem_map.1 (hb4 e he);have h5:=ok3.fresh e3 he3;rw[hVs,hb3]at h5;exact h5
   have hl4:l ∉ L4.map Zl.b:=fun hmem=>by
    obtain⟨e,he,hb⟩:=List.mem_map.1 hmem;rcases fr4 e he with h5|h5
    ·rw[hb]at h5;exact hlL h5
    ·omega
   refine⟨_,_,h4,rfl,hk,⟨?_,?_,?_,?_⟩,?_,?_⟩
   ·exact(Vr _ hg4 hl4 hl3 (fun _ _ _ h=>by cases h)).sub
   ·intro e he;rcases List.mem_cons.1 he with rfl|he
    ·exact .mkAt rfl rfl (World.putObj_heap_same hlt3)
    ·exact(Vr _ hg4 hl4 hl3 (fun _ _ _ h=>by cases h)).own e he
   ·exact List.nodup_cons.2 ⟨hl4,hg4.nodup⟩
   ·intro e he;rcases List.mem_cons.1 he with rfl|he
    ·funext o
     show h4 l o=none
     cases hv:h4 l o with
     | none=>rfl
     | some u=>have:=hg4.sub l o u hv;rw[Zcv hl3 (fun _ _ _ h=>by cases h)]at this;cases this
    ·exact hg4.apart e he
   ·have k1:Zu (l::L.map Zl.b) W W1:=⟨ok1.kept.os,ok1.kept.tape,ok1.kept.output,ok1.kept.size,fun k hk hM=>ok1.kept.block k hk fun hm=>hM (List.mem_cons_of_mem _ hm)⟩
    have k2:Zu (l::L.map Zl.b) W W2:=by rw[← hW2];exact UK _ k1 (.inl (by simp))
    have k3:Zu (l::L.map Zl.b) W W3:=by
     have ko:=ok3.kept.os;have kt:=ok3.kept.tape;have kp:=ok3.kept.output;rw[← hV]at ko kt kp;refine⟨ko.trans k2.os,kt.trans k2.tape,kp.trans k2.output,by have:=ok3.kept.size;omega,fun k hk hM=>?_⟩;rw[ok3.kept.block k (by omega) (fun hm=>hM (List.mem_cons_of_mem _ hm)),hVk k hk];exact k2.block k hk hM
    exact UK _ k3 (.inl (by simp))
   ·intro e he;rcases List.mem_cons.1 he with rfl|he
    ·exact .inl (by simp)
    ·rcases fr4 e he with h5|h5
     ·exact .inl (List.mem_cons_of_mem _ h5)
     ·exact .inr h5
  cases e with
  | normal=>exact⟨_,_,run_endRound none hl3,fin true _ _ hq3⟩
  | ret=>exact⟨_,_,run_endRound (some .ret) hl3,fin false _ _ hq3⟩
  | exit id=>exact⟨_,_,run_endRound (some (.exit id)) hl3,fin false _ _ hq3⟩
  | _=>exact hq3.elim
 | _=>exact hq.elim
theorem Zcu {P:Program}(hm:P.follows .mixedOrders=true){l D fn:Nat}{tmps:Array Value}{ps:List Tmp}{assign body:Code}{E:Env}{args:List Value}{L:Own}{h:PH}{K:PK}
  (he:∀i v,E.lookup i=some v→tmps.getD i undef=v) (hp:(ps.toArray.all fun p=>decide (p<tmps.size))=true) (ha:wfC tmps.size assign=true) (hb:wfC tmps.size body=true)
  (na:WO assign=true) (nb:WO body=true) (hl:ps.length=args.length)
  (hx:xC P assign (thn (xC P body (G1 l (VK fn tmps ps.toArray assign body D) K)) fun _ _ _ _=>False) (U7 ps args E) L h) :
  YSpec P l args (Gw l (VK fn tmps ps.toArray assign body D .ready none)::L) h K:=by
 refine Zgc hm he hp ha hb na nb (by simpa using hl) ?_;have key:∀Q1 Q2:UR,Q1=Q2→xC P assign Q2 (U7 ps args E) L h→xC P assign Q1 (U7 ps args E) L h:=fun _ _ e hx=>e ▸ hx;refine key _ _ ?_ hx
 funext e E1 L1 h1
 cases e<;>rfl
end Go.X
