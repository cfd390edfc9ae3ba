/- Lemmas and contracts. Conditions: as each says. -/
import Derived.Test.YtpdidilobgimcaaGreatQ32
import Derived.Test.YtpdidilobgimcaaGreatQ33
set_option linter.unusedVariables false
set_option linter.unusedSimpArgs false
set_option maxHeartbeats 12800000
set_option maxRecDepth 20000
namespace Go.X
open Go.RowKit Go.Proofs Go.Bl Go.Proofs.Tryz
variable {L:Own} {h:PH} {K:PK}
def Zfw (s:Ze)(n:Int):Int:=if YZ s=true then (if n<0∨1000<n then 2 else if n=0∨s.ep+n≤1073741824 then 0 else 200) else 291
def Znz (pl:List (List Int))(s:Ze)(n:Int):Ze:=if Zfw s n=0 then itS pl s n.toNat else Vh
def Yeq (pl:List (List Int))(s:Ze)(n:Int):List Zi:=if Zfw s n=0 then (List.range n.toNat).map (itR pl s) else []
abbrev RQ:=RV×Zi
def rpQ (x:RQ):List Value:=rpC x.2 x.1
theorem Zea (x:RQ):(rpQ x).length=14:=rfl
def Zgx:RQ:=(Ywu,Ziy)
structure ZL (h:PH)(v:Value)(l:List Zi)(q:List RQ):Prop where
 r:Zg rpQ 14 h v q
 e:q.map (fun x=>x.2)=l
 i:∀x∈q,Zx h x.1 x.2
theorem ZL.up {h h':PH}(le:PH.le h h'){v:Value}{l:List Zi}{q:List RQ}(x:ZL h v l q):ZL h' v l q:=⟨x.r.up le,x.e,fun y hy=>(x.i y hy).up le⟩
theorem Zmp (h:PH):ZL h (.slice none 0 0) [] []:=⟨Zg.nil Zea h,rfl,fun x hx=>by cases hx⟩
structure RuG where
 o:Option (Nat×Nat)
 u:SV
 q:List RQ
abbrev ruO (b8 b7 b6 b5 b3:Nat)(o:Option (Nat×Nat))(j:Nat)(n:Int)(S:Ze)(u:SV)(q:List RQ)(s:Ze)(v:SV)(L:Own):Own :=
 ⟨b8,40,[.int .i64 0],1⟩::⟨b7,39,[ovs o j],1⟩::⟨b6,34,stC S u,41⟩::⟨b5,3,[.int .i64 n],1⟩::⟨b3,34,stC s v,41⟩::oent 55 14 o (q.flatMap rpQ) L
theorem Zwn (x:Zl){b8 b7 b6 b5 b3:Nat}{o:Option (Nat×Nat)}{j:Nat}{n:Int}(S:Ze)(u:SV)(q:List RQ)(s:Ze)(v:SV){L M:Own}:x::ruO b8 b7 b6 b5 b3 o j n S u q s v (L++M)=(x::ruO b8 b7 b6 b5 b3 o j n S u q s v L)++M:=by
 simp only[ruO,List.cons_append,VT]
structure RuI (pl:List (List Int))(s:Ze)(j:Nat)(h:PH)(y:RuG):Prop where
 i:Zo h y.u (itS pl s j)
 ok:okO y.o j
 l:y.q.length=j
 e:y.q.map (fun x=>x.2)=(List.range j).map (itR pl s)
 r:∀x∈y.q,Zx h x.1 x.2
theorem RuI.up {pl:List (List Int)}{s:Ze}{j:Nat}{h h':PH}(le:PH.le h h'){y:RuG}(x:RuI pl s j h y):RuI pl s j h' y:=⟨x.i.up le,x.ok,x.l,x.e,fun z hz=>(x.r z hz).up le⟩
theorem RuI.next {pl:List (List Int)}{s:Ze}{j:Nat}{h:PH}{y:RuG}(x:RuI pl s j h y){o':Option (Nat×Nat)}{u:SV}{q:RV}(i:Zo h u (itS pl s (j+1)))(r:Zx h q (itR pl s j))(ok:okO o' (j+1)):RuI pl s (j+1) h ⟨o',u,y.q++[(q,itR pl s j)]⟩ :=
 ⟨i,ok,by rw[List.length_append,x.l];rfl,by rw[List.map_append,x.e,List.range_succ,List.map_append];rfl,fun z hz=>by
  rcases List.mem_append.1 hz with hz|hz
  ·exact x.r z hz
  ·rw[List.mem_singleton]at hz;subst hz;exact r⟩
theorem Yad (q:List RQ)(x:RQ):(q++[x]).flatMap rpQ=q.flatMap rpQ++rpC x.2 x.1:=by
 rw[List.flatMap_append];simp only[List.flatMap_cons,List.flatMap_nil,List.append_nil]
 rfl
theorem Zdb {s:Ze}{pl:List QS}{ga:Option Addr}{gc:Nat}(v:SV)(n:Int)(hs:Zo h v s)(few:Zt s)(hd:(s.dues.length:Int)+384*n≤28000∨1000<n)(hp:Zw h (.slice ga pl.length gc) pl)(hn:n≤60∨1000<n)
    (hk:∀h' u rv q,PH.le h h'→Zo h' u (Znz (xsL pl) s n)→ZL h' rv (Yeq (xsL pl) s n) q→(Zfw s n=0→YZ (Znz (xsL pl) s n)=true∧(Znz (xsL pl) s n).dues.length≤s.dues.length+384*n.toNat)→K (.tuple #[stV (Znz (xsL pl) s n) u,rv,.int .i64 (Zfw s n)]) L h') :
    Zb prog 16 [stV s v,.slice ga pl.length gc,.int .i64 n] L h K:=by
  have no:Zfw s n≠0→∀h',PH.le h h'→K (.tuple #[stV Vh Zee,.slice none 0 0,.int .i64 (Zfw s n)]) L h':=fun e h' le=>by
    have:=hk h' Zee (.slice none 0 0) [] le (by rw[Znz,if_neg e];exact GL h') (by rw[Yeq,if_neg e];exact Zmp h') (fun e2=>absurd e2 e);rw[Znz,if_neg e]at this;exact this
  obtain⟨pa,pc,ma,mc,ea,ec,xa,xc,oa,oc,da,dc,ta,tc,ka,kc,ra,rc,rfl⟩:=hs.slices;refine ZT func16 rfl (rs:=[_,_,_]) rfl rfl ZW (by kernel_rfl) (by kernel_rfl) rfl ?_;refine xx ?_;refine Z1 fun b3 nb3 zb3=>?_;(try simp only[ZU]at nb3);clear nb3;refine xx ?_;refine Z1 fun b5 nb5 zb5=>?_;(try simp only[ZU]at nb5);have n53:NeB b5 b3:=Ne.symm nb5.1;clear nb5;refine xx ?_;refine Z1 fun b6 nb6 zb6=>?_;(try simp only[ZU]at nb6);have n65:NeB b6 b5:=Ne.symm nb6.1;have n63:NeB b6 b3:=Ne.symm nb6.2.1;clear nb6;refine xx ?_;refine Z1 fun b7 nb7 zb7=>?_;(try simp only[ZU]at nb7);have n76:NeB b7 b6:=Ne.symm nb7.1;have n75:NeB b7 b5:=Ne.symm nb7.2.1;have n73:NeB b7 b3:=Ne.symm nb7.2.2.1;clear nb7;refine xx ?_;refine Z1 fun b8 nb8 zb8=>?_;(try simp only[ZU]at nb8);have n87:NeB b8 b7:=Ne.symm nb8.1;have n86:NeB b8 b6:=Ne.symm nb8.2.1;have n85:NeB b8 b5:=Ne.symm nb8.2.2.1;have n83:NeB b8 b3:=Ne.symm nb8.2.2.2.1;clear nb8;refine xx ?_;refine Zgi (s:=s) ⟨.slice pa s.purses.length pc,.slice ma s.members.length mc,.slice ea s.entry.length ec,.slice xa s.exit.length xc,.slice oa s.pool.length oc,.slice da s.dues.length dc,.slice ta s.motions.length tc,.slice ka s.marks.length kc,.slice ra s.ring.length rc⟩ n hs few ?_;by_cases c0:YZ s=true
  rotate_left
  · have eE:Zfw s n=291:=by rw[Zfw,if_neg c0]
    rw[if_neg c0];have no:=no (by omega) h (PH.le_refl h);rw[eE]at no;refine xx ?_;exact ZO (ZO (ZO (ZO (ZO (ZP no)))))
  rw[if_pos c0];by_cases c1:n<0∨1000<n
  · have eE:Zfw s n=2:=by rw[Zfw,if_pos c0,if_pos c1]
    rw[if_pos c1];have no:=no (by omega) h (PH.le_refl h);rw[eE]at no;refine xx ?_;exact ZO (ZO (ZO (ZO (ZO (ZP no)))))
  rw[if_neg c1];have eE:Zfw s n=if n=0∨s.ep+n≤1073741824 then 0 else 200:=by rw[Zfw,if_pos c0,if_neg c1]
  refine xx ?_;refine Zb.ap (Zbx (s:=s) ⟨.slice pa s.purses.length pc,.slice ma s.members.length mc,.slice ea s.entry.length ec,.slice xa s.exit.length xc,.slice oa s.pool.length oc,.slice da s.dues.length dc,.slice ta s.motions.length tc,.slice ka s.marks.length kc,.slice ra s.ring.length rc⟩ hs few fun h1 u le1 is ap=>?_);have a18:h1 b8=noC:=ap.1;have a17:h1 b7=noC:=ap.2.1;have a16:h1 b6=noC:=ap.2.2.1;have a15:h1 b5=noC:=ap.2.2.2.1;have a13:h1 b3=noC:=ap.2.2.2.2.1;clear ap;have is0:=is;obtain⟨pa2,pc2,ma2,mc2,ea2,ec2,xa2,xc2,oa2,oc2,da2,dc2,ta2,tc2,ka2,kc2,ra2,rc2,rfl⟩:=is.slices;refine xx ?_;by_cases c2:n=0
  · subst c2;have e0:Zfw s 0=0:=by rw[eE,if_pos (.inl rfl)]
    have hk:=hk h1 ⟨.slice pa2 s.purses.length pc2,.slice ma2 s.members.length mc2,.slice ea2 s.entry.length ec2,.slice xa2 s.exit.length xc2,.slice oa2 s.pool.length oc2,.slice da2 s.dues.length dc2,.slice ta2 s.motions.length tc2,.slice ka2 s.marks.length kc2,.slice ra2 s.ring.length rc2⟩ (.slice none 0 0) [] le1 (by rw[Znz,if_pos e0];exact is0) (by rw[Yeq,if_pos e0];exact Zmp h1) (fun _=>by rw[Znz,if_pos e0];exact⟨c0,by show s.dues.length≤_;omega⟩);rw[Znz,if_pos e0,e0]at hk;refine xx ?_;exact ZO (ZO (ZO (ZO (ZO (ZP hk)))))
  obtain⟨N,rfl⟩:∃N:Nat,n=N:=⟨n.toNat,by omega⟩
  have hN0:0<N:=by omega
  have hN60:N≤60:=by omega
  refine xx ?_;refine GB (s:=s) ⟨.slice pa s.purses.length pc,.slice ma s.members.length mc,.slice ea s.entry.length ec,.slice xa s.exit.length xc,.slice oa s.pool.length oc,.slice da s.dues.length dc,.slice ta s.motions.length tc,.slice ka s.marks.length kc,.slice ra s.ring.length rc⟩ (hs.up le1) ga pl.length gc fun c2 c3 m1 m2 m3 m4 m5=>?_;clear m1 m2 m3 m4 m5;refine xx ?_;refine Zsx ⟨f182,func182,by decide +kernel,rfl⟩ fun l D fn tmps he hp2 ha hb nl hl=>?_;clear nl hl
  generalize hR:VK fn tmps _ _ _ D .ready none=R
  refine Zb.weaken (Za.perm _ (List.perm_middle (l₁:=[_,_]) (l₂:=_::_::_::_::_::L) (a:=Gw l R)).symm) ?_;have hdu:s.dues.length+384*N≤29000:=by omega
  refine Zlv (s:=s) (pl:=pl) c2 c3 l N (by omega) hdu (hp.up le1) ⟨.slice pa s.purses.length pc,.slice ma s.members.length mc,.slice ea s.entry.length ec,.slice xa s.exit.length xc,.slice oa s.pool.length oc,.slice da s.dues.length dc,.slice ta s.motions.length tc,.slice ka s.marks.length kc,.slice ra s.ring.length rc⟩ ⟨hs.up le1,c0,by show s.dues.length≤_;omega⟩
    (fun j LL h2=>∃y:RuG,LL=Gw l R::ruO b8 b7 b6 b5 b3 y.o j N (itS (xsL pl) s j) y.u y.q s ⟨.slice pa s.purses.length pc,.slice ma s.members.length mc,.slice ea s.entry.length ec,.slice xa s.exit.length xc,.slice oa s.pool.length oc,.slice da s.dues.length dc,.slice ta s.motions.length tc,.slice ka s.marks.length kc,.slice ra s.ring.length rc⟩ L∧RuI (xsL pl) s j h2 y)
    (fun j LL h2 h3 ⟨y,e,i⟩ le _=>⟨y,e,i.up le⟩) ?_ ?_ ⟨⟨none,⟨.slice pa2 s.purses.length pc2,.slice ma2 s.members.length mc2,.slice ea2 s.entry.length ec2,.slice xa2 s.exit.length xc2,.slice oa2 s.pool.length oc2,.slice da2 s.dues.length dc2,.slice ta2 s.motions.length tc2,.slice ka2 s.marks.length kc2,.slice ra2 s.ring.length rc2⟩,[]⟩,rfl,⟨is0,rfl,rfl,rfl,fun x hx=>by cases hx⟩⟩ hN0
  · rintro j LL h2 M u3 q3 hj ⟨⟨o,u2,ql⟩,rfl,hi⟩ le2 hI hr hep nd ap;have hi0:=hi;obtain⟨i1,i2,i3,i4,i5⟩:=hi;simp only at i1 i2 i3 i4 i5 nd ap ⊢;have a28:h2 b8=noC:=ap.2.1;have a27:h2 b7=noC:=ap.2.2.1;have a26:h2 b6=noC:=ap.2.2.2.1;have a25:h2 b5=noC:=ap.2.2.2.2.1;have a23:h2 b3=noC:=ap.2.2.2.2.2.1;have apo:apO o [] h2:=by
      have:=ap.2.2.2.2.2.2
      cases o with
      | none=>trivial
      | some p=>exact⟨trivial,this.1⟩
    clear nd ap;have hi3:=hI.i;obtain⟨T,hT⟩:∃T,T=itS (xsL pl) s (j+1):=⟨_,rfl⟩
    obtain⟨R,hRR⟩:∃R,R=itR (xsL pl) s j:=⟨_,rfl⟩
    rw[← hT]at hi3 ⊢;rw[← hRR]at hr ⊢;have hi30:=hi3;obtain⟨pa3,pc3,ma3,mc3,ea3,ec3,xa3,xc3,oa3,oc3,da3,dc3,ta3,tc3,ka3,kc3,ra3,rc3,rfl⟩:=hi3.slices;obtain⟨qoa,qoc,qla,qlc,qsa,qsc,qda,qdc,rfl⟩:=hr.slices;obtain⟨pa4,pc4,ma4,mc4,ea4,ec4,xa4,xc4,oa4,oc4,da4,dc4,ta4,tc4,ka4,kc4,ra4,rc4,rfl⟩:=i1.slices;obtain⟨ya,yc,ey,_⟩:=Z9 i2;simp only[List.cons_append,VT];subst hR;refine Zcu ZW he hp2 ha hb rfl rfl rfl ?_;refine xx ?_;refine Z1 fun b11 nb11 zb11=>?_;(try simp only[ZU]at nb11);have q18:NeB b11 b8:=Ne.symm nb11.1;have q17:NeB b11 b7:=Ne.symm nb11.2.1;have q16:NeB b11 b6:=Ne.symm nb11.2.2.1;have q15:NeB b11 b5:=Ne.symm nb11.2.2.2.1;clear nb11;refine xx ?_;refine Yn (.tk 0 (.tk 3 (.tkl 1 (.o1 2 (.o1 4 (.o1 5 (.o1 6 (.o2 7 (.o2 8 (.fin) (.nil)) (.nil)) (.nil)) (.nil)) (.nil)) (.o1 4 (.o1 2 (.o1 5 (.o1 6 (.o2 7 (.o2 8 (.fin) (.nil)) (.nil)) (.nil)) (.nil)) (.o1 5 (.o1 2 (.o1 6 (.o2 7 (.o2 8 (.fin) (.nil)) (.nil)) (.nil)) (.nil)) (.nil))) (.nil)))))) (by kernel_rfl) (by kernel_rfl) [_,_,_,_,_,_] (drop_left [_,_,_,_,_,_] _ _) ?_;refine xx ?_
    repeat' first
      | with_reducible refine Yf ?_ ?_
      | with_reducible refine xkp (drop_left [_,_,_,_,_,_] _ _) ?_
      | with_reducible refine xkp ((Za.tail _ _ _).trans (drop_left [_,_,_,_,_,_] _ _)) ?_
      | (with_reducible refine Z1 fun b13 nb13 zb13 => ?_
         have r11:NeB b13 b11:=Ne.symm nb13.1;have r8:NeB b13 b8:=Ne.symm nb13.2.1;have r7:NeB b13 b7:=Ne.symm nb13.2.2.1;have r6:NeB b13 b6:=Ne.symm nb13.2.2.2.1;have r5:NeB b13 b5:=Ne.symm nb13.2.2.2.2.1
         clear nb13)
      | simp -dsimp -implicitDefEqProofs (disch:=first|with_reducible assumption|omega) [go_sem]
      | fail
    all_goals
      refine Z3 (t:=39) (e:=55) (sz:=14) (bytes:=176) (by kernel_rfl) Yly rfl rfl rfl rfl (by decide) [_,_,_,_,_,_,_] _ o j _ i2 (by rw[Z0 Zea,i3]) (Src.own (b:=b13) (t:=55) (cap:=14) List.mem_cons_self) (m:=1) rfl (by intro u hu;simp only[List.mem_cons,List.not_mem_nil,or_false]at hu;rcases hu with rfl|rfl|rfl|rfl|rfl|rfl|rfl|rfl|rfl|rfl|rfl|rfl|rfl|rfl<;>rfl) (by simp [maxLen];omega) (by omega) ?_;intro o' j1 j2 j3;simp only[List.cons_append,List.nil_append];refine xkp ((Za.tail _ _ _).trans (drop_left [_,_,_,_,_,_] _ _)) ?_;have rI:=RuI.next hi0 (u:=⟨.slice pa3 T.purses.length pc3,.slice ma3 T.members.length mc3,.slice ea3 T.entry.length ec3,.slice xa3 T.exit.length xc3,.slice oa3 T.pool.length oc3,.slice da3 T.dues.length dc3,.slice ta3 T.motions.length tc3,.slice ka3 T.marks.length kc3,.slice ra3 T.ring.length rc3⟩) (q:=⟨.slice qoa R.out.length qoc,.slice qla R.left.length qlc,.slice qsa R.started.length qsc,.slice qda R.done.length qdc⟩) (by rw[← hT];exact hi30) (by rw[← hRR];exact hr) j1;rw[← hRR]at rI
      try simp only at rI
      have eC:ql.flatMap rpQ++[.int .i64 R.ep,.int .i64 R.mode,.bool R.quo,.int .u64 R.pres,.int .u64 R.act,.int .u64 R.mint,.int .u64 R.paid,.int .u64 R.kept,.int .u64 R.burned,.int .u64 R.fees,.slice qoa R.out.length qoc,.slice qla R.left.length qlc,.slice qsa R.started.length qsc,.slice qda R.done.length qdc]=(ql++[((⟨.slice qoa R.out.length qoc,.slice qla R.left.length qlc,.slice qsa R.started.length qsc,.slice qda R.done.length qdc⟩:RV),R)]).flatMap rpQ:=(Yad ql ((⟨.slice qoa R.out.length qoc,.slice qla R.left.length qlc,.slice qsa R.started.length qsc,.slice qda R.done.length qdc⟩:RV),R)).symm;rw[eC];clear eC;obtain⟨qn,hqn⟩:∃qn,qn=ql++[((⟨.slice qoa R.out.length qoc,.slice qla R.left.length qlc,.slice qsa R.started.length qsc,.slice qda R.done.length qdc⟩:RV),R)]:=⟨_,rfl⟩
      rw[← hqn]at rI ⊢;clear hqn;have apo':apO o' [] h2:=by
        cases o' with
        | none=>trivial
        | some p=>exact⟨trivial,j2.2⟩
      clear j2 j3;by_cases c5:j+1=N
      · refine xx ?_;refine WH ((Za.tail _ _ _).trans (Za.tail _ _ _)) ?_;refine⟨PH.le_refl _,_,Zwn _ T ⟨.slice pa3 T.purses.length pc3,.slice ma3 T.members.length mc3,.slice ea3 T.entry.length ec3,.slice xa3 T.exit.length xc3,.slice oa3 T.pool.length oc3,.slice da3 T.dues.length dc3,.slice ta3 T.motions.length tc3,.slice ka3 T.marks.length kc3,.slice ra3 T.ring.length rc3⟩ qn s ⟨.slice pa s.purses.length pc,.slice ma s.members.length mc,.slice ea s.entry.length ec,.slice xa s.exit.length xc,.slice oa s.pool.length oc,.slice da s.dues.length dc,.slice ta s.motions.length tc,.slice ka s.marks.length kc,.slice ra s.ring.length rc⟩,.inr ⟨rfl,?_⟩⟩;refine⟨.done,some (.exit 0),_,rfl,by decide,?_⟩;subst c5;have e0:Zfw s ((j+1:Nat):Int)=0:=by
          have:=GN (xsL pl) s j;rw[eE,if_pos (.inr (by omega))]
        have eT:Znz (xsL pl) s ((j+1:Nat):Int)=T:=by rw[Znz,if_pos e0,Int.toNat_natCast,hT]
        have eR:Yeq (xsL pl) s ((j+1:Nat):Int)=(List.range (j+1)).map (itR (xsL pl) s):=by rw[Yeq,if_pos e0,Int.toNat_natCast]
        obtain⟨ya9,yc9,exo,_⟩:=Z9 j1;simp only[ruO,exo];refine xx ?_;refine Yn (.tkl 0 (.o1 1 (.o2 2 (.o2 3 (.o2 4 (.fin) (.nil)) (.nil)) (.nil)) (.o2 2 (.o1 1 (.o2 3 (.o2 4 (.fin) (.nil)) (.nil)) (.nil)) (.nil)))) (by kernel_rfl) (by kernel_rfl) _ (Za.refl _ _) ?_;refine xx ?_
        repeat' first
          | with_reducible refine Yf ?_ ?_
          | with_reducible refine xkp (Za.refl _ _) ?_
          | simp -dsimp -implicitDefEqProofs (disch:=first|with_reducible assumption|omega) [go_sem]
          | fail
        all_goals
          refine ZO (ZO (ZO (ZO (ZO (YG (e:=55) (sz:=14) (n:=j+1) j1 (by rw[Z0 Zea,rI.l]) (by omega) (L0:=[]) apo' fun h3 le3 sl=>ZP ?_)))));have rr:Zg rpQ 14 h3 (.slice ya9 (j+1) yc9) qn:=by
            have:=Zg.pub (f:=rpQ) (w:=14) (l:=qn) (o:=o') Zea (by rw[rI.l];exact sl);rw[rI.l,exo]at this;exact this
          have fn:=hk h3 ⟨.slice pa3 T.purses.length pc3,.slice ma3 T.members.length mc3,.slice ea3 T.entry.length ec3,.slice xa3 T.exit.length xc3,.slice oa3 T.pool.length oc3,.slice da3 T.dues.length dc3,.slice ta3 T.motions.length tc3,.slice ka3 T.marks.length kc3,.slice ra3 T.ring.length rc3⟩ (.slice ya9 (j+1) yc9) qn (le1.trans (le2.trans le3)) (by rw[eT];exact hi30.up le3) ⟨rr,by rw[eR];exact rI.e,fun x hx=>(rI.r x hx).up le3⟩ (fun _=>by rw[eT,Int.toNat_natCast,hT];exact⟨hI.f,hI.d⟩);rw[eT,e0]at fn;exact fn
      · refine xx ?_;refine WH ((Za.tail _ _ _).trans (Za.tail _ _ _)) ?_;refine⟨PH.le_refl _,_,Zwn _ T ⟨.slice pa3 T.purses.length pc3,.slice ma3 T.members.length mc3,.slice ea3 T.entry.length ec3,.slice xa3 T.exit.length xc3,.slice oa3 T.pool.length oc3,.slice da3 T.dues.length dc3,.slice ta3 T.motions.length tc3,.slice ka3 T.marks.length kc3,.slice ra3 T.ring.length rc3⟩ qn s ⟨.slice pa s.purses.length pc,.slice ma s.members.length mc,.slice ea s.entry.length ec,.slice xa s.exit.length xc,.slice oa s.pool.length oc,.slice da s.dues.length dc,.slice ta s.motions.length tc,.slice ka s.marks.length kc,.slice ra s.ring.length rc⟩,.inl ⟨rfl,by omega,⟨⟨o',⟨.slice pa3 T.purses.length pc3,.slice ma3 T.members.length mc3,.slice ea3 T.entry.length ec3,.slice xa3 T.exit.length xc3,.slice oa3 T.pool.length oc3,.slice da3 T.dues.length dc3,.slice ta3 T.motions.length tc3,.slice ka3 T.marks.length kc3,.slice ra3 T.ring.length rc3⟩,qn⟩,?_,rI⟩⟩⟩;subst hT
        rfl
  · rintro j LL h2 M u3 q3 hj ⟨⟨o,u2,ql⟩,rfl,hi⟩ le2 iz rz hep nd ap;obtain⟨i1,i2,i3,i4,i5⟩:=hi;simp only at i1 i2 i3 i4 i5 nd ap ⊢;have a28:h2 b8=noC:=ap.2.1;have a27:h2 b7=noC:=ap.2.2.1;have a26:h2 b6=noC:=ap.2.2.2.1;have a25:h2 b5=noC:=ap.2.2.2.2.1;have a23:h2 b3=noC:=ap.2.2.2.2.2.1;clear nd ap;obtain⟨pa3,pc3,ma3,mc3,ea3,ec3,xa3,xc3,oa3,oc3,da3,dc3,ta3,tc3,ka3,kc3,ra3,rc3,rfl⟩:=iz.slices;obtain⟨qoa,qoc,qla,qlc,qsa,qsc,qda,qdc,rfl⟩:=rz.slices;obtain⟨pa4,pc4,ma4,mc4,ea4,ec4,xa4,xc4,oa4,oc4,da4,dc4,ta4,tc4,ka4,kc4,ra4,rc4,rfl⟩:=i1.slices;have he2:Zfw s (N:Int)=200:=by
      have:=GN (xsL pl) s j;rw[eE,if_neg (by omega)]
    have no:=no (by omega) h2 (le1.trans le2);rw[he2]at no;simp only[List.cons_append,VT];subst hR;refine Zcu ZW he hp2 ha hb rfl rfl rfl ?_;refine xx ?_;refine Z1 fun b11 nb11 zb11=>?_;(try simp only[ZU]at nb11);have q18:NeB b11 b8:=Ne.symm nb11.1;have q17:NeB b11 b7:=Ne.symm nb11.2.1;have q16:NeB b11 b6:=Ne.symm nb11.2.2.1;have q15:NeB b11 b5:=Ne.symm nb11.2.2.2.1;clear nb11;refine xx ?_;refine Yn (.tk 0 (.tk 1 (.o1 2 (.o2 3 (.o2 4 (.o2 5 (.fin) (.nil)) (.nil)) (.nil)) (.o2 3 (.o1 2 (.o2 4 (.o2 5 (.fin) (.nil)) (.nil)) (.o2 4 (.o1 2 (.o2 5 (.fin) (.nil)) (.nil)) (.nil))) (.nil))))) (by kernel_rfl) (by kernel_rfl) _ (Za.refl _ _) ?_;refine xx ?_
    repeat' first
      | with_reducible refine Yf ?_ ?_
      | with_reducible refine xkp (Za.refl _ _) ?_
      | simp -dsimp -implicitDefEqProofs (disch:=first|with_reducible assumption|omega) [go_sem]
      | fail
    all_goals
      refine WH (Za.tail _ _ _) ?_;refine⟨PH.le_refl _,Gw l _::⟨b8,40,[.int .i64 200],1⟩::⟨b7,39,[.slice none 0 0],1⟩::⟨b6,34,stC Vh Zee,41⟩::⟨b5,3,[.int .i64 N],1⟩::⟨b3,34,stC s ⟨.slice pa s.purses.length pc,.slice ma s.members.length mc,.slice ea s.entry.length ec,.slice xa s.exit.length xc,.slice oa s.pool.length oc,.slice da s.dues.length dc,.slice ta s.motions.length tc,.slice ka s.marks.length kc,.slice ra s.ring.length rc⟩,41⟩::oent 55 14 o (ql.flatMap rpQ) L,(by first|(simp only[List.cons_append,VT];done)|(simp only[List.cons_append,VT];rfl)),rfl,?_⟩;refine⟨.done,some .ret,_,rfl,by decide,?_⟩;refine xx ?_;exact ZO (ZO (ZO (ZO (ZO (Wn (ZP no))))))
def whN (pl:List (List Int))(s:Ze):Nat→Nat→Int×Bool×Int
 | 0,_=>(0,false,0)
 | m+1,i=>if (itS pl s i).ep<1073741824 then (if (itR pl s i).quo=true then ((i:Int)+1,true,0) else whN pl s m (i+1)) else (0,false,200)
def GJ (pl:List (List Int))(s:Ze)(n:Int):Int×Bool×Int:=if YZ s=true then (if n<0∨1000<n then (0,false,2) else whN pl s n.toNat 0) else (0,false,291)
abbrev whO (b8 b7 b6 b5 b3:Nat)(n:Int)(s:Ze)(v:SV)(L:Own):Own :=
 ⟨b8,40,[.int .i64 0],1⟩::⟨b7,4,[.bool false],1⟩::⟨b6,3,[.int .i64 0],1⟩::⟨b5,3,[.int .i64 n],1⟩::⟨b3,34,stC s v,41⟩::L
theorem Zey {s:Ze}{pl:List QS}{ga:Option Addr}{gc:Nat}(v:SV)(n:Int)(hs:Zo h v s)(few:Zt s)(hd:(s.dues.length:Int)+384*(n+1)≤28000∨1000<n)(hp:Zw h (.slice ga pl.length gc) pl)(hn:n≤60∨1000<n)
  (hk:∀h',PH.le h h'→K (.tuple #[.int .i64 (GJ (xsL pl) s n).1,.bool (GJ (xsL pl) s n).2.1,.int .i64 (GJ (xsL pl) s n).2.2]) L h') :
  Zb prog 19 [stV s v,.slice ga pl.length gc,.int .i64 n] L h K:=by
 obtain⟨pa,pc,ma,mc,ea,ec,xa,xc,oa,oc,da,dc,ta,tc,ka,kc,ra,rc,rfl⟩:=hs.slices;refine ZT func19 rfl (rs:=[_,_,_]) rfl rfl ZW (by kernel_rfl) (by kernel_rfl) rfl ?_;refine xx ?_;refine Z1 fun b3 nb3 zb3=>?_;(try simp only[ZU]at nb3);clear nb3;refine xx ?_;refine Z1 fun b5 nb5 zb5=>?_;(try simp only[ZU]at nb5);have n53:NeB b5 b3:=Ne.symm nb5.1;clear nb5;refine xx ?_;refine Z1 fun b6 nb6 zb6=>?_;(try simp only[ZU]at nb6);have n65:NeB b6 b5:=Ne.symm nb6.1;have n63:NeB b6 b3:=Ne.symm nb6.2.1;clear nb6;refine xx ?_;refine Z1 fun b7 nb7 zb7=>?_;(try simp only[ZU]at nb7);have n76:NeB b7 b6:=Ne.symm nb7.1;have n75:NeB b7 b5:=Ne.symm nb7.2.1;have n73:NeB b7 b3:=Ne.symm nb7.2.2.1;clear nb7;refine xx ?_;refine Z1 fun b8 nb8 zb8=>?_;(try simp only[ZU]at nb8);have n87:NeB b8 b7:=Ne.symm nb8.1;have n86:NeB b8 b6:=Ne.symm nb8.2.1;have n85:NeB b8 b5:=Ne.symm nb8.2.2.1;have n83:NeB b8 b3:=Ne.symm nb8.2.2.2.1;clear nb8;refine xx ?_;refine Zgi (s:=s) ⟨.slice pa s.purses.length pc,.slice ma s.members.length mc,.slice ea s.entry.length ec,.slice xa s.exit.length xc,.slice oa s.pool.length oc,.slice da s.dues.length dc,.slice ta s.motions.length tc,.slice ka s.marks.length kc,.slice ra s.ring.length rc⟩ n hs few ?_;by_cases c0:YZ s=true
 rotate_left
 ·rw[if_neg c0];have no:=hk h (PH.le_refl h);rw[GJ,if_neg c0]at no;refine xx ?_;exact ZO (ZO (ZO (ZO (ZO (ZP no)))))
 rw[if_pos c0];by_cases c1:n<0∨1000<n
 ·rw[if_pos c1];have no:=hk h (PH.le_refl h);rw[GJ,if_pos c0,if_pos c1]at no;refine xx ?_;exact ZO (ZO (ZO (ZO (ZO (ZP no)))))
 rw[if_neg c1];obtain⟨N,rfl⟩:∃N:Nat,n=N:=⟨n.toNat,by omega⟩
 have eW:GJ (xsL pl) s (N:Int)=whN (xsL pl) s N 0:=by rw[GJ,if_pos c0,if_neg c1,Int.toNat_natCast]
 rw[eW]at hk;have hN60:N≤60:=by omega
 refine xx ?_;refine GB (s:=s) ⟨.slice pa s.purses.length pc,.slice ma s.members.length mc,.slice ea s.entry.length ec,.slice xa s.exit.length xc,.slice oa s.pool.length oc,.slice da s.dues.length dc,.slice ta s.motions.length tc,.slice ka s.marks.length kc,.slice ra s.ring.length rc⟩ hs ga pl.length gc fun c2 c3 m1 m2 m3 m4 m5=>?_;clear m1 m2 m3 m4 m5;refine xx ?_;refine Zsx ⟨f182,func182,by decide +kernel,rfl⟩ fun l D fn tmps he hp2 ha hb nl hl=>?_;clear nl hl
 generalize hR:VK fn tmps _ _ _ D .ready none=R
 refine Zb.weaken (Za.perm _ (List.perm_middle (l₁:=[_,_]) (l₂:=_::_::_::_::_::L) (a:=Gw l R)).symm) ?_;refine Zlv (s:=s) (pl:=pl) c2 c3 l (N+1) (by omega) (by omega) hp ⟨.slice pa s.purses.length pc,.slice ma s.members.length mc,.slice ea s.entry.length ec,.slice xa s.exit.length xc,.slice oa s.pool.length oc,.slice da s.dues.length dc,.slice ta s.motions.length tc,.slice ka s.marks.length kc,.slice ra s.ring.length rc⟩ ⟨hs,c0,by show s.dues.length≤_;omega⟩
  (fun j LL h2=>LL=Gw l R::whO b8 b7 b6 b5 b3 N s ⟨.slice pa s.purses.length pc,.slice ma s.members.length mc,.slice ea s.entry.length ec,.slice xa s.exit.length xc,.slice oa s.pool.length oc,.slice da s.dues.length dc,.slice ta s.motions.length tc,.slice ka s.marks.length kc,.slice ra s.ring.length rc⟩ L∧whN (xsL pl) s N 0=whN (xsL pl) s (N-j) j)
  (fun j LL h2 h3 i le _=>i) ?_ ?_ ⟨rfl,rfl⟩ (by omega)
 ·rintro j LL h2 M u3 q3 hj ⟨rfl,hw⟩ le2 hI hr hep nd ap
  try simp only at nd ap ⊢
  have a28:h2 b8=noC:=ap.2.1;have a27:h2 b7=noC:=ap.2.2.1;have a26:h2 b6=noC:=ap.2.2.2.1;have a25:h2 b5=noC:=ap.2.2.2.2.1;have a23:h2 b3=noC:=ap.2.2.2.2.2.1;clear nd ap;have hi3:=hI.i;obtain⟨T,hT⟩:∃T,T=itS (xsL pl) s (j+1):=⟨_,rfl⟩
  obtain⟨R2,hRR⟩:∃R2,R2=itR (xsL pl) s j:=⟨_,rfl⟩
  rw[← hT]at hi3 ⊢;rw[← hRR]at hr ⊢;obtain⟨pa3,pc3,ma3,mc3,ea3,ec3,xa3,xc3,oa3,oc3,da3,dc3,ta3,tc3,ka3,kc3,ra3,rc3,rfl⟩:=hi3.slices;obtain⟨qoa,qoc,qla,qlc,qsa,qsc,qda,qdc,rfl⟩:=hr.slices;simp only[List.cons_append];subst hR;refine Zcu ZW he hp2 ha hb rfl rfl rfl ?_;refine xx ?_;refine Z1 fun b11 nb11 zb11=>?_;(try simp only[ZU]at nb11);have q18:NeB b11 b8:=Ne.symm nb11.1;have q17:NeB b11 b7:=Ne.symm nb11.2.1;have q16:NeB b11 b6:=Ne.symm nb11.2.2.1;have q15:NeB b11 b5:=Ne.symm nb11.2.2.2.1;clear nb11;refine xx ?_;by_cases c2':N≤j
  ·have hk:=hk h2 le2;rw[hw,show N-j=0 by omega,whN]at hk;refine xx ?_;refine WH (Za.tail _ _ _) ?_;refine⟨PH.le_refl _,_::whO b8 b7 b6 b5 b3 N s ⟨.slice pa s.purses.length pc,.slice ma s.members.length mc,.slice ea s.entry.length ec,.slice xa s.exit.length xc,.slice oa s.pool.length oc,.slice da s.dues.length dc,.slice ta s.motions.length tc,.slice ka s.marks.length kc,.slice ra s.ring.length rc⟩ L,rfl,.inr ⟨rfl,?_⟩⟩;refine⟨.done,some (.exit 0),_,rfl,by decide,?_⟩;refine xx ?_;exact ZO (ZO (ZO (ZO (ZO (ZP hk)))))
  have hw2:whN (xsL pl) s (N-j) j=if R2.quo=true then ((j:Int)+1,true,0) else whN (xsL pl) s (N-(j+1)) (j+1):=by
   rw[show N-j=(N-(j+1))+1 by omega,whN,if_pos hep,← hRR]
  cases c3':R2.quo with
  | true =>
   have hk:=hk h2 le2;rw[hw,hw2,if_pos c3']at hk;refine xx ?_;refine WH (Za.tail _ _ _) ?_;refine⟨PH.le_refl _,_::⟨b8,40,[.int .i64 0],1⟩::⟨b7,4,[.bool true],1⟩::⟨b6,3,[.int .i64 (j+1)],1⟩::⟨b5,3,[.int .i64 N],1⟩::⟨b3,34,stC s ⟨.slice pa s.purses.length pc,.slice ma s.members.length mc,.slice ea s.entry.length ec,.slice xa s.exit.length xc,.slice oa s.pool.length oc,.slice da s.dues.length dc,.slice ta s.motions.length tc,.slice ka s.marks.length kc,.slice ra s.ring.length rc⟩,41⟩::L,rfl,.inr ⟨rfl,?_⟩⟩;refine⟨.done,some .ret,_,rfl,by decide,?_⟩;refine xx ?_;exact ZO (ZO (ZO (ZO (ZO (ZP hk)))))
  | false =>
   refine xx ?_;refine WH (Za.tail _ _ _) ?_;refine⟨PH.le_refl _,_::whO b8 b7 b6 b5 b3 N s ⟨.slice pa s.purses.length pc,.slice ma s.members.length mc,.slice ea s.entry.length ec,.slice xa s.exit.length xc,.slice oa s.pool.length oc,.slice da s.dues.length dc,.slice ta s.motions.length tc,.slice ka s.marks.length kc,.slice ra s.ring.length rc⟩ L,rfl,.inl ⟨rfl,by omega,rfl,?_⟩⟩;rw[hw,hw2,if_neg (by rw[c3'];decide)]
 ·rintro j LL h2 M u3 q3 hj ⟨rfl,hw⟩ le2 iz rz hep nd ap
  try simp only at nd ap ⊢
  have a28:h2 b8=noC:=ap.2.1;have a27:h2 b7=noC:=ap.2.2.1;have a26:h2 b6=noC:=ap.2.2.2.1;have a25:h2 b5=noC:=ap.2.2.2.2.1;have a23:h2 b3=noC:=ap.2.2.2.2.2.1;clear nd ap;obtain⟨pa3,pc3,ma3,mc3,ea3,ec3,xa3,xc3,oa3,oc3,da3,dc3,ta3,tc3,ka3,kc3,ra3,rc3,rfl⟩:=iz.slices;obtain⟨qoa,qoc,qla,qlc,qsa,qsc,qda,qdc,rfl⟩:=rz.slices;simp only[List.cons_append];subst hR;refine Zcu ZW he hp2 ha hb rfl rfl rfl ?_;refine xx ?_;refine Z1 fun b11 nb11 zb11=>?_;(try simp only[ZU]at nb11);have q18:NeB b11 b8:=Ne.symm nb11.1;have q17:NeB b11 b7:=Ne.symm nb11.2.1;have q16:NeB b11 b6:=Ne.symm nb11.2.2.1;have q15:NeB b11 b5:=Ne.symm nb11.2.2.2.1;clear nb11;refine xx ?_;by_cases c2':N≤j
  ·have hk:=hk h2 le2;rw[hw,show N-j=0 by omega,whN]at hk;refine xx ?_;refine WH (Za.tail _ _ _) ?_;refine⟨PH.le_refl _,_::whO b8 b7 b6 b5 b3 N s ⟨.slice pa s.purses.length pc,.slice ma s.members.length mc,.slice ea s.entry.length ec,.slice xa s.exit.length xc,.slice oa s.pool.length oc,.slice da s.dues.length dc,.slice ta s.motions.length tc,.slice ka s.marks.length kc,.slice ra s.ring.length rc⟩ L,rfl,rfl,?_⟩;refine⟨.done,some (.exit 0),_,rfl,by decide,?_⟩;refine xx ?_;exact ZO (ZO (ZO (ZO (ZO (ZP hk)))))
  have hw2:whN (xsL pl) s (N-j) j=(0,false,200):=by
   rw[show N-j=(N-(j+1))+1 by omega,whN,if_neg hep]
  have hk:=hk h2 le2;rw[hw,hw2]at hk;refine xx ?_;refine Yn (.tk 0 (.o1 1 (.o2 2 (.o2 3 (.o2 4 (.fin) (.nil)) (.nil)) (.nil)) (.o2 2 (.o1 1 (.o2 3 (.o2 4 (.fin) (.nil)) (.nil)) (.o2 3 (.o1 1 (.o2 4 (.fin) (.nil)) (.nil)) (.nil))) (.nil)))) (by kernel_rfl) (by kernel_rfl) _ (Za.refl _ _) ?_;refine xx ?_
  repeat' first
   | with_reducible refine Yf ?_ ?_
   | with_reducible refine xkp (Za.refl _ _) ?_
   | simp -dsimp -implicitDefEqProofs (disch:=first|with_reducible assumption|omega) [go_sem]
   | fail
  all_goals
   refine WH (Za.tail _ _ _) ?_;refine⟨PH.le_refl _,_::⟨b8,40,[.int .i64 200],1⟩::⟨b7,4,[.bool false],1⟩::⟨b6,3,[.int .i64 0],1⟩::⟨b5,3,[.int .i64 N],1⟩::⟨b3,34,stC s ⟨.slice pa s.purses.length pc,.slice ma s.members.length mc,.slice ea s.entry.length ec,.slice xa s.exit.length xc,.slice oa s.pool.length oc,.slice da s.dues.length dc,.slice ta s.motions.length tc,.slice ka s.marks.length kc,.slice ra s.ring.length rc⟩,41⟩::L,rfl,rfl,?_⟩;refine⟨.done,some .ret,_,rfl,by decide,?_⟩;refine xx ?_;exact ZO (ZO (ZO (ZO (ZO (ZP hk)))))
end Go.X
set_option maxRecDepth 100000
namespace Go.X
open Go.RowKit Go.Proofs Go.Bl Go.Proofs.Tryz
variable {L:Own} {h:PH} {K:PK}
theorem Zrk:GJ [[1],[3]] simpS 5=(2,true,0):=by decide +kernel
theorem Yde (n:Int)(hn:0≤n∧n≤255):∀z∈[n],IntKind.u8.min≤z∧z≤IntKind.u8.max:=fun z hz=>by
 rw[List.mem_singleton]at hz;rw[hz,show IntKind.u8.min=0 by decide,show IntKind.u8.max=255 by decide];exact hn
theorem Zkl (hk:∀h',PH.le h h'→K (.bool true) L h'):Zb prog 13 [] L h K:=by
 refine ZT func13 rfl (rs:=[_]) rfl rfl ZW (by kernel_rfl) rfl rfl ?_;refine xx ?_;refine Zfe fun h1 pa0 pc0 fa0 fc0 le1 ig=>?_;refine xx ?_;refine Zhz ig fun h2 u le2 is=>?_;have is0:=is;obtain⟨pa,pc,ma,mc,ea,ec,xa,xc,oa,oc,da,dc,ta,tc,ka,kc,ra,rc,rfl⟩:=is.slices;refine xx ?_;refine Z1 fun b1 nb1 zb1=>?_;(try simp only[ZU]at nb1);refine xx ?_;refine Z1 fun b15 nb15 zb15=>?_;(try simp only[ZU]at nb15);have n151:=nb15.1;refine xx ?_;refine Z1 fun b16 nb16 zb16=>?_;(try simp only[ZU]at nb16);have n165:=nb16.1;refine xx ?_;refine Z1 fun b17 nb17 zb17=>?_;(try simp only[ZU]at nb17);have n176:=nb17.1;have n175:=nb17.2.1;refine xx ?_;refine YL (e:=31) (b:=b17) (sz:=1) (n:=2) (cap:=2) (xs:=[.slice (some ⟨b15,0,none⟩) 1 1,.slice (some ⟨b16,0,none⟩) 1 1]) [] ⟨by decide,by decide⟩ rfl (by decide) zb17 fun h3 le3 sl3 same3=>?_;have a36:h3 b16=noC:=by rw[same3 b16 n176];exact zb16
 have a35:h3 b15=noC:=by rw[same3 b15 n175];exact zb15
 refine YL (e:=5) (b:=b16) (sz:=1) (n:=1) (cap:=1) (xs:=[.int .u8 3]) [] ⟨by decide,by decide⟩ rfl (by decide) a36 fun h4 le4 sl4 same4=>?_;have a45:h4 b15=noC:=by rw[same4 b15 n165];exact a35
 refine YL (e:=5) (b:=b15) (sz:=1) (n:=1) (cap:=1) (xs:=[.int .u8 1]) [] ⟨by decide,by decide⟩ rfl (by decide) a45 fun h5 le5 sl5 same5=>?_;have hp:Zw h5 (.slice (some ⟨b17,0,none⟩) 2 2) [(.slice (some ⟨b15,0,none⟩) 1 1,[1]),(.slice (some ⟨b16,0,none⟩) 1 1,[3])] :=
  ⟨sl3.up (le4.trans le5),fun q hq=>by
   simp only[List.mem_cons,List.not_mem_nil,or_false]at hq;rcases hq with rfl|rfl
   ·exact⟨sl5,Yde 1 (by decide)⟩
   ·exact⟨sl4.up le5,Yde 3 (by decide)⟩⟩
 have le25:=le3.trans (le4.trans le5);refine Zey (s:=simpS) (pl:=[(.slice (some ⟨b15,0,none⟩) 1 1,[1]),(.slice (some ⟨b16,0,none⟩) 1 1,[3])]) ⟨.slice pa simpS.purses.length pc,.slice ma simpS.members.length mc,.slice ea simpS.entry.length ec,.slice xa simpS.exit.length xc,.slice oa simpS.pool.length oc,.slice da simpS.dues.length dc,.slice ta simpS.motions.length tc,.slice ka simpS.marks.length kc,.slice ra simpS.ring.length rc⟩ 5 (is0.up le25) Zeh (.inl (by decide)) hp (.inl (by decide)) fun h6 le6=>?_;rw[show GJ (xsL [(.slice (some ⟨b15,0,none⟩) 1 1,[1]),(.slice (some ⟨b16,0,none⟩) 1 1,[3])]) simpS 5=(2,true,0) from Zrk];refine xx ?_;refine Zem ?_;refine xx ?_;exact ZO (ZP (hk h6 (le1.trans (le2.trans (le25.trans le6)))))
end Go.X
