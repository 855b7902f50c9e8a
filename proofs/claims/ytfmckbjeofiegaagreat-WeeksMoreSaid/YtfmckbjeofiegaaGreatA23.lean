/- Part 23 of a proof. -/
import Derived.Test.YtfmckbjeofiegaaGreatA20
import Derived.Test.YtfmckbjeofiegaaGreatA21
set_option maxRecDepth 100000
set_option maxHeartbeats 16000000
set_option linter.all false
open Go Go.RowKit Go.Proofs.Tryz
namespace Go.Proofs.YtfmckbjeofiegaaGreat
variable {f:aQ}{cs:List Value}{B k o:Nat}{vr vt:Value}{x:aJ}
section
attribute [local go_sem] Qv
attribute [local go_sem] Oper.semAt_some
theorem asL(p:bU)(va vb:Value)(l:List dF)(bl:List Int)(w:World)(ha:aC Shape.pnt w va l)(hb:aC Shape.int w vb bl)(hp:fA p=true)(htr:(qp l).1=0):
  Calls prog 163 #[K9 p,va,vb] w λe w'=>∃(av:Option Addr) (nv cv:Nat) (q:Int),e=.returned (.tuple #[.agg #[.slice av nv cv],q])∧(jY p l bl).2=q∧(q=0→Shape.span.list.list.reads (λb=>w.heap.size≤b) w' [.slice av nv cv] (sI p l bl))∧BL w w':=by
 have HA:=U ha;have HB:=U hb;clear ha hb;have vG:Hid (Gx p l=0):=U (by unfold Gx;rw[if_pos hp,htr]);have hpi:=Bz.1 hp;obtain⟨aa,ca,rfl,aup,VF⟩:=HA.o.shape;obtain⟨ab,cb,rfl,auq,QY⟩:=HB.o.shape;unfold maxLen at VF QY;have HP:=U hp;have TL:=U htr;clear htr hp;obtain⟨x1,x2,x3,x4,x5,x6,⟨x7,x8⟩,⟨x9,dL⟩⟩:=p;simp only at hpi;obtain⟨⟨pa,pb,pc,pd,pe,pf,pg,ph,pi,pj,pk⟩,⟨pl,pm,pn⟩,po,pq,pr⟩:=hpi;obtain⟨n,rfl⟩:∃n:Nat,x6=n:=⟨x6.toNat,ae⟩
 have FR:Hid (∀W',BL w W'→Calls prog 218 #[.agg #[x1,x2,x3,x4,x5,n,x7,x8,x9,dL],.slice aa l.length ca] W' λe w''=>e=.returned (.tuple #[.agg #[x1,x2,x3,x4,x5,n,x7,x8,x9,dL],.int .i64 0])∧BL W' w''):=U λW' hbw=>
  (aio ⟨x1,x2,x3,x4,x5,(n:Int),(x7,x8),(x9,dL)⟩ _ l W' (HA.o.below hbw)).mono λe w'' ⟨f,h1,h2,h3⟩=>⟨by rw[h1,h2 HP.o,vG.o],h3⟩
 unfold K9;refine(xW (n:=3)).1 ?_;refine zb func163 rfl trivial ?_ rfl;simp only[ntmps163,jb,dS,fU,Nat.reduceAdd,Nat.reduceSub,kv,kw,kC,kz,fE,gB];have hfn:∀k,Fence.wide.fn k:=λ_=>trivial;have hdp:¬(Fence.wide.depth.isSome=true):=kL;gi_wp2_with fail;have bP:=U ((Bx.new (W:=w) (t:=51) (vs:=[.int .i64 x1,.int .i64 x2,.int .i64 x3,.int .i64 x4,.int .i64 x5,.int .i64 n,.int .i64 x7,.int .i64 x8,.int .i64 x9,.int .i64 dL]) rfl).alloc (.cells #[.slice none 0 0] 244));have bI:=U (Bx.new (W:=w.alloc (.cells #[x1,x2,x3,x4,x5,n,x7,x8,x9,dL] 51)) (B:=w.heap.size+1) (t:=244) (vs:=[.slice none 0 0]) aj);have HB0:=U (Bl.alloc (Bl.alloc (aB w.heap.size w) (.cells #[x1,x2,x3,x4,x5,n,x7,x8,x9,dL] 51)) (.cells #[.slice none 0 0] 244));refine(jH jJ (FR.o _ HB0.o)).mono ?_;rintro e w1 ⟨rfl,hb1⟩;have HB1:=U (Bl.call HB0.o hb1);have bP:=U (bP.o.next hb1);have bI:=U (bI.o.next hb1);clear hb1 HB0;have b3:=bP.o.cell 5;have l3:=bP.o.lt;simp only[aK,bB]at b3;have l6:=bI.o.lt;obtain⟨w4,hrun,jf,hb4⟩:=aw7 (w1.alloc (.cells #[x1,x2,x3,x4,x5,n,x7,x8,x9,dL] 285)) n ae
 have X8:=(Bx.new (W:=w1) (t:=285) (vs:=[.int .i64 x1,.int .i64 x2,.int .i64 x3,.int .i64 x4,.int .i64 x5,.int .i64 n,.int .i64 x7,.int .i64 x8,.int .i64 x9,.int .i64 dL]) rfl).next hb4;have mD:=Bl.call (Bl.alloc (aB w1.heap.size w1) (.cells #[x1,x2,x3,x4,x5,n,x7,x8,x9,dL] 285)) hb4;rw[fH]at jf;gi_wp2_with fail;have bX:=U (Bl.call HB1.o mD);have Y6:=U (bP.o.next mD);have Ms:=U (bI.o.next mD);have qD:=U X8;have Ao:=U jf;have z1:=Ms.o.lt;have z8:=bI.o.lt;have SY:=jf.lt;clear mD hb4 X8 jf hrun b3 l3 l6 bP bI;clear HB1;generalize aDv:w1.heap.size+1=g10 at *
 (try unfold BL at *);generalize bq:w1.heap.size=b8 at *
 gi_loopw [38] (λs38 wr=>∃i:Nat,i≤bl.length∧s38=.int .i64 i∧Hid (Bx g10 (nM n (λ_=>.slice none 0 0) (bl.take i)) wr)∧Hid (aA (λk=>k=g10) w4 wr)∧Hid (∀j,j<i→Gc ⟨x1,x2,x3,x4,x5,n,(x7,x8),(x9,dL)⟩ bl j=true)) (λs38 _=>bl.length-(intOf s38).toNat)
 case atStart=>exact⟨0,ae,rfl,by simpa using Ao,U (aA.refl _ _),U (λj hj=>ae)⟩
 case round=>
  obtain⟨i,hi,rfl,HC,HT,kN⟩:=hrel;have cB:=U (aA.below bX.o HT.o ae (λk e=>ae));by_cases hlt:i<bl.length
  ·obtain⟨qb,ob,rfl,d1⟩:=(HB.o.below cB.o).int_at hlt;have Tg:=U (aqV (p:=⟨x1,x2,x3,x4,x5,n,(x7,x8),(x9,dL)⟩) hlt);have kR:Hid (bl.take (i+1)=bl.take i++[bl[i]]):=U (jF hlt)
   have HP1:Hid (∀h:i-1<bl.length,wr.cell? ⟨qb,ob+(i-1),none⟩=some (.int .i64 bl[i-1])∧bl.getD (i-1) 0=bl[i-1]):=U (λh=>by
    obtain⟨_,_,e,d⟩:=(HB.o.below cB.o).int_at h;cases e
    exact⟨d,by rw[bN,di h,sj]⟩)
   generalize bl[i]=c at *;have X3:=Y6.o.turns HT.o ae;have X6:=Ms.o.turns HT.o ae;have MO:=X3.cell 5;have l3:=X3.lt;simp only[aK,bB]at MO;have i1:(0:Int)≤(i:Int):=ae;have i2:(i:Int)<bl.length:=ae;have lqb:=fe _ _ d1;have c6:=X6.cell 0;have f6:=X6.free 0;have l6:=X6.lt;simp only[aK]at c6;obtain⟨qw,Np⟩:∃q,Hid (dw c 0 ((n:Int)-1)=q):=⟨_,U rfl⟩;have HBAD:Hid (Gc ⟨x1,x2,x3,x4,x5,n,(x7,x8),(x9,dL)⟩ bl i=false→(jY ⟨x1,x2,x3,x4,x5,n,(x7,x8),(x9,dL)⟩ l bl).2=1):=U (λh=>avY HP.o TL.o (aqW hlt h));gi_wp2_with fail;refine(jH jJ (Va _ _ _ qw _ Np)).mono ?_;rintro e w5 ⟨rfl,rfl⟩
   cases qw with
   |false=>
    gi_wp2_with fail;have xQ:=X6.set 0 (.slice none 0 0) aj;have BM:=U (aA.below cB.o (aA.setCell (λk=>k=w.heap.size+1) wr ⟨w.heap.size+1,0,none⟩ (.slice none 0 0) rfl) ajp (λk e=>ae));refine KS (lo:=w.heap.size) [] _ Marks.nil (λW' t _=>?_);have Ga:=xQ.turns t (λh=>xX (xQ.cell 0) h.2);obtain⟨tR,uC,qL⟩:=Ga.obj aj;refine⟨_,RQ rfl _ _ _ tR _ uC _ rfl qL underlying244 rfl aF,none,0,0,1,rfl,HBAD.o (by rw[Tg.o];simp only[Np.o,Ta]),(λh=>ae),?_⟩;exact aA.below BM.o t (by have:=BM.o.size;exact this) (λq h=>h.1)
   |true=>
    have hcb:0≤c∧c≤(n:Int)-1:=by have:=Np.o;unfold dw at this;simpa using this
    obtain⟨m,rfl⟩:∃m:Nat,c=m:=⟨c.toNat,ae⟩;have XB:=HC.o;have fr:=XB.free (m*2+1);have lg:=XB.lt;have cm:=XB.cell (m*2+1);rw[(aah (n:=n) (i:=m) ae).2]at cm;have bg:Hid (Bx g10 (nM n (λ_=>.slice none 0 0) (bl.take (i+1))) (wr.setCell ⟨g10,m*2+1,none⟩ (.bool true))):=U (by rw[kR.o,←arU];exact XB.set _ _ (by rw[arV];omega));have HT2:=U (HT.o.trans (aA.setCell (λk=>k=g10) wr ⟨g10,m*2+1,none⟩ (.bool true) rfl));have i3:(0:Int)≤(m:Int):=ae;have i4:(m:Int)<(n:Int):=ae;clear XB;by_cases h0:i=0
    ·subst h0
     have XO:Hid (∀j,j<0+1→Gc ⟨x1,x2,x3,x4,x5,n,(x7,x8),(x9,dL)⟩ bl j=true):=U (λj hj=>by
      obtain rfl:j=0:=ae
      rw[Tg.o];simp only[Np.o];rfl)
     clear HBAD;gi_wp2_with fail;exact⟨⟨1,ae,rfl,bg,HT2,XO⟩,GG⟩
    ·have h1:i-1<bl.length:=ae;obtain⟨d0,g0⟩:=HP1.o h1;have G0:=U g0;clear g0;generalize bl[i-1]=c0 at *;have i5:(0:Int)<(i:Int):=ae;have i6:((i-1:Nat):Int)=(i:Int)-1:=ae;by_cases hlc:c0<(m:Int)
     ·have XO:Hid (∀j,j<i+1→Gc ⟨x1,x2,x3,x4,x5,n,(x7,x8),(x9,dL)⟩ bl j=true):=U (λj hj=>by
       by_cases e:j<i
       ·exact kN.o j e
       ·obtain rfl:j=i:=ae
        rw[Tg.o,G0.o];simp only[Np.o,DL,OB,dG];exact .inr hlc)
      have i7:¬(m:Int)≤c0:=ae;have i8:decide ((m:Int)≤c0)=false:=by simpa using hlc
      clear HBAD;gi_wp2_with fail;all_goals exact⟨⟨i+1,ae,aY,bg,HT2,XO⟩,GG⟩
     ·have i7:(m:Int)≤c0:=ae;have i8:decide ((m:Int)≤c0)=true:=by simpa using i7
      have DR:Hid ((jY ⟨x1,x2,x3,x4,x5,n,(x7,x8),(x9,dL)⟩ l bl).2=1):=U (HBAD.o (by
       rw[Tg.o,G0.o];simp only[Np.o,DL,Bool.or_eq_false_iff,Gi];exact⟨h0,hlc⟩))
      clear bg HT2 cm fr;gi_wp2_with fail;have xQ:=X6.set 0 (.slice none 0 0) aj;have BM:=U (aA.below cB.o (aA.setCell (λk=>k=w.heap.size+1) wr ⟨w.heap.size+1,0,none⟩ (.slice none 0 0) rfl) ajp (λk e=>ae));refine KS (lo:=w.heap.size) [] _ Marks.nil (λW' t _=>?_);have Ga:=xQ.turns t (λh=>xX (xQ.cell 0) h.2);obtain⟨tR,uC,qL⟩:=Ga.obj aj;refine⟨_,RQ rfl _ _ _ tR _ uC _ rfl qL underlying244 rfl aF,none,0,0,1,rfl,DR.o,(λh=>ae),?_⟩;exact aA.below BM.o t (by have:=BM.o.size;exact this) (λq h=>h.1)
  ·have i2:¬(i:Int)<bl.length:=ae;obtain rfl:i=bl.length:=ae;rw[jc]at HC;have XU:=U (nV.mk (base:=w4.heap.size) (pos:=λj=>j*2) (N:=n) (L:=λ_=>[]) (vf:=λ_=>Value.slice none 0 0) HC.o SY (λj hj=>(aah hj).1) (λi j _ _ h=>by have:i*2=j*2:=h;omega) (λj hj=>yC rfl) (λi j q _ _ _ hq=>MS));have FH:=U HT.o;obtain⟨p,hp⟩:∃p:bU,Hid (⟨x1,x2,x3,x4,x5,(n:Int),(x7,x8),(x9,dL)⟩=p):=⟨_,U rfl⟩;rw[hp.o]at HP vG kN;have Pg:Hid (∀t∈l,vW t=true):=U (aAH TL.o);have pG:Hid (Ei p bl=true):=U (aqX kN.o);clear kN HC HT HB FR;gi_wp2_with fail
   refine wpIn_loop (λa' W=>∃(k:Nat) (ds:List Deferred),(k≤l.length∧Hid (∃vf,nV w4.heap.size g10 (λj=>j*2) n (λc=>norm ((l.take k).flatMap λt=>mX p t c)) vf (nM n vf bl) W)∧Hid (aA (λq=>q=g10) w4 W)∧Hid (Marks w4.heap.size ds W))∧∃us:Nat→Value,a'=Act.mk [us 0,.slice aa l.length ca,us 2,.pointer (some ⟨w.heap.size,0,none⟩),us 4,us 5,.pointer (some ⟨w.heap.size+1,0,none⟩),us 7,.pointer (some ⟨b8,0,none⟩),us 9,.slice (some ⟨g10,0,none⟩) n n,us 11,us 12,us 13,us 14,us 15,us 16,us 17,us 18,us 19,us 20,us 21,us 22,us 23,us 24,us 25,us 26,us 27,us 28,us 29,us 30,us 31,us 32,us 33,us 34,us 35,us 36,us 37,us 38,us 39,us 40,us 41,us 42,us 43,us 44,us 45,us 46,us 47,us 48,us 49,us 50,us 51,us 52,us 53,us 54,us 55,us 56,us 57,us 58,us 59,us 60,us 61,us 62,us 63,us 64,us 65,us 66,us 67,.slice aa l.length ca,.int .i64 l.length,.int .i64 k,us 71,us 72,us 73,us 74,us 75,us 76,us 77,us 78,us 79,us 80,us 81,us 82,us 83,us 84,us 85,us 86,us 87,us 88,us 89,us 90,us 91,us 92,us 93,us 94,us 95,us 96,us 97,us 98,us 99,us 100,us 101,us 102,us 103,us 104,us 105,us 106,us 107,us 108,us 109,us 110,us 111,us 112,us 113,us 114,us 115,us 116,us 117,us 118,us 119,us 120,us 121,us 122,us 123,us 124,us 125,us 126,us 127,us 128,us 129,us 130,us 131,us 132,us 133,us 134,us 135,us 136,us 137,us 138,us 139,us 140,us 141,us 142,us 143,us 144,us 145,us 146,us 147,us 148].toArray ds)
    (λa' _=>l.length-(intOf (a'.tmps.getD 70 undef)).toNat) ?start ?round
   case start=>exact⟨0,[],⟨ae,U ⟨_,XU.o.same (λj _=>by simp[norm,merge])⟩,FH,U Marks.nil⟩,Dc _ _ _ rfl⟩
   case round=>
    rintro a' W ⟨k,ds,⟨hk,G6,lJ,Fu⟩,us,rfl⟩;by_cases hlt:k<l.length
    ·obtain⟨qb,ob,rfl,d1,d2,d3⟩:=(HA.o.below (aA.below bX.o lJ.o ae (λk e=>ae))).pnt_at hlt;have i1:(0:Int)≤(k:Int):=ae;have i2:(k:Int)<l.length:=ae;have kR:Hid (l.take (k+1)=l.take k++[l[k]]):=U (jF hlt);generalize l[k]=t at *;obtain⟨t1,t2,t3⟩:=t;simp only at d1 d2 d3;have X3:=Y6.o.turns lJ.o ae;have MO:=X3.cell 5;have l3:=X3.lt;simp only[aK,bB]at MO;have lqb:=fe _ _ d1;have HPT:Hid (vW (t1,t2,t3)=true):=U (Pg.o _ (J8 (i:=k+1) (by rw[kR.o];simp)));obtain⟨w5,hrun,X5,hb5⟩:=aw9 (W.alloc (.cells #[t1,t2,t3] 115)) n ae;rw[fH]at X5;have abf:=Bl.call (Bl.alloc (aB W.heap.size W) (.cells #[t1,t2,t3] 115)) hb5;have Qp:=(Bx.new (W:=W) (t:=115) (vs:=[.int .i64 t1,.int .i64 t2,.int .i64 t3]) rfl).next hb5;have abg:=Bl.alloc abf (.cells #[.slice (some ⟨W.heap.size+1,0,none⟩) n n] 293);have Y8:=(qD.o.turns lJ.o ae).next abg;have Qp:=Qp.alloc (.cells #[.slice (some ⟨W.heap.size+1,0,none⟩) n n] 293);have Y5:=X5.alloc (.cells #[.slice (some ⟨W.heap.size+1,0,none⟩) n n] 293);have Qq:=Bx.new (W:=w5) (t:=293) (vs:=[.slice (some ⟨W.heap.size+1,0,none⟩) n n]) rfl;have aha:=((X3.alloc (.cells #[t1,t2,t3] 115))).cell 5;simp only[aK,bB]at aha
     have c8:=Y8.cell;have c14:=Qp.cell;have l8:=Y8.lt;have l14:=Qp.lt;dsimp only;gi_wp2_with fail;have aoo:=U abg;have Gm:=atb p (t1,t2,t3) (w5.alloc (.cells #[.slice (some ⟨W.heap.size+1,0,none⟩) n n] 293)) HP.o HPT.o;rw[←hp.o]at Gm;refine(jH jJ Gm).mono ?_;rintro e w7 ⟨rfl,VP,uJ,bV⟩;rw[fH]at uJ;simp only[fH]at VP;have iy:=U (Bl.call aoo.o bV);have qC:=U VP;have afX:=U (Qq.next bV);have aZ:=U (Y5.next bV);have af2:=U (Y8.next bV);have afZ:=U (X3.next iy.o);have hs5:=abf.size;have hl1:=X5.lt;have aEj:w5.heap.size+3≤w7.heap.size:=ae;clear uJ;rw[fH];clear VP bV Gm abg abf hb5 X5 Y5 Qq Qp Y8 X3 c8 c14 l8 l14 MO aha l3 hrun d1 d2 d3 lqb;gi_wp2_with fail;have zZ:Hid (nV (w7.heap.size+2) (W.heap.size+1) (λj=>j) n (sJ p []) (λ_=>.slice none 0 0) (uT n (λ_=>.slice none 0 0)) w7):=U ⟨by rw[←amG];exact aZ.o,ae,λj hj=>WF hj,λi j _ _ h=>h,λj hj=>yC rfl,λi j q _ _ _ hq=>MS⟩;refine(λ(h:∃A:Nat→(Int×Sp)→Act,_)=>h.elim λ_ h=>h) ?_;apply Exists.intro
     refine ad3 (gf:=270) (lb:=#[.pointer (some ⟨w5.heap.size+1,0,none⟩),.pointer (some ⟨w5.heap.size+1+1,0,none⟩)]) rfl (fo func270 aF rfl) (qC.o _) (λq hq=>ae) (λ_=>rfl)
      (λown pre W'=>(∃vf,nV (w7.heap.size+2) (W.heap.size+1) (λj=>j) n (sJ p pre) vf (uT n vf) W'∧∀j q,j<n→(vf j).ownBlock=some q→¬own q)∧aA (λq=>q=(W.heap.size+1)) w7 W'∧∀z∈pre,z∈mW p (t1,t2,t3)) ?hI ?h0
      (λown pre x a1 W'=>∃b17:Nat,(Bx b17 [x.2.1,x.2.2] W'∧w7.heap.size+2≤b17∧¬own b17)∧(x∈mW p (t1,t2,t3)∧∀z∈pre,z∈mW p (t1,t2,t3))∧((∃vf,nV (w7.heap.size+2) (W.heap.size+1) (λj=>j) n (sJ p pre) vf (uT n vf) W'∧∀j q,j<n→(vf j).ownBlock=some q→¬own q∧q<b17)∧aA (λq=>q=(W.heap.size+1)) w7 W')∧a1=?w b17 x) ?hAx ?assign ?body ?done
     case hI=>
      rintro own own' s A B ⟨⟨vf,hC,hR⟩,hT,hM⟩ ho hs ht hw;refine⟨⟨vf,hC.turns ht (λh=>?_) (λj q hj hq h=>?_),λj q hj hq h=>?_⟩,hT.trans2 ht (λq h=>.inr ?_),hM⟩
      ·rcases h with h|h|h
       ·exact VD
       ·omega
       ·omega
      ·have h1:=((hC.sp j hj).lt q hq).1;rcases h with h|h|h
       ·exact hR j q hj hq h
       ·omega
       ·omega
      ·rcases hw q h with h|h
       ·exact hR j q hj hq h
       ·have:=((hC.sp j hj).lt q hq).2;omega
      ·rcases h with h|h|h
       ·exact VD
       ·omega
       ·omega
     case h0=>exact⟨⟨_,zZ.o,λj q hj hq=>MS⟩,aA.refl _ _,λz hz=>by cases hz⟩
     case hAx=>
      rintro own pre x a1 A B ⟨b17,⟨h1,h2,h3⟩,h4,⟨⟨vf,hC,hR⟩,hT⟩,h6⟩ ho ht hlt hsz;exact⟨b17,⟨h1.turns ht (λe=>ae),h2,h3⟩,h4,⟨⟨vf,hC.turns ht (λe=>ae) (λj q hj hq e=>by have:=((hC.sp j hj).lt q hq).1;omega),hR⟩,hT.trans2 ht (λq e=>.inr ae)⟩,h6⟩
     case assign=>
      rintro ll own pre x W' hi' ho hs hlt hp;have HI:=U hi';clear hi';have Ph:=U hp;clear hp;unfold U5;gi_wp2_with fail;have hbl:BL W' (W'.alloc (.cells #[x.2.1,x.2.2] 41)):=Bl.alloc (aB _ _) _;have hX1:=Bx.new (W:=W') (t:=41) (vs:=[.int .i64 x.2.1,.int .i64 x.2.2]) rfl
      have Gn:fG w7.heap.size (λk=>k=w5.heap.size+1∨k=w5.heap.size+1+1) own W' (W'.alloc (.cells #[x.2.1,x.2.2] 41)):=fG.of_below hbl λq hq=>by
       rcases hq with h|h|h|h
       ·omega
       ·exact(ho q h).2
       ·omega
       ·omega
      obtain⟨⟨vf,hC,hR⟩,hT,hM⟩:=HI.o
      have hI2:(∃vf,nV (w7.heap.size+2) (W.heap.size+1) (λj=>j) n (sJ p pre) vf (uT n vf) (W'.alloc (.cells #[x.2.1,x.2.2] 41))∧∀j q,j<n→(vf j).ownBlock=some q→¬own q∧q<W'.heap.size)∧aA (λq=>q=W.heap.size+1) w7 (W'.alloc (.cells #[x.2.1,x.2.2] 41)):=
       ⟨⟨vf,hC.below hbl,λj q hj hq=>⟨hR j q hj hq,((hC.sp j hj).lt q hq).2⟩⟩,hT.trans2 (aA.of_below (own:=λ_=>False) hbl) (λq h=>h.elim)⟩
      have hno:¬own W'.heap.size:=λh=>VD;clear hC hR hT HI;generalize W'.alloc (.cells #[x.2.1,x.2.2] 41)=W2 at *
      (try unfold BL at *);generalize W'.heap.size=b17 at *
      exact⟨Gn,b17,⟨hX1,hs,hno⟩,⟨by rw[←hp.o];exact Ph.o,by first|exact hM|exact λa b c h=>hM (a,b,c) h⟩,hI2,rfl⟩
     case done=>
      rintro own xs W8 rfl ⟨⟨vf,hC,hR⟩,hT,_⟩ ho hs hD;have c0:=aZ.o.cell 0;rw[List.getElem?_replicate,aG ae]at c0;have HMW:=U ((Fu.o.below iy.o).turns hT (λD hD e=>by rw[e]at hD;exact xX c0 hD));have mh:=U (Marks.cons (D:=w7.heap.size) (Fu.o.below iy.o) (aV _) (by have:=lJ.o.size;have:=iy.o.size;omega) HMW.o hD);have aeE:=U hC;have HT0:=U hT;obtain⟨vo,hCo⟩:=G6.o;have Da:=lJ.o.size;have aEk:=iy.o.size;have aiM:=(hCo.below iy.o).turns hT ae (λj q hj hq h=>by have:=((hCo.sp j hj).lt q hq).2;omega);have Yc:=U (aiM.same (L':=λc=>if c<0 then norm ((l.take (k+1)).flatMap λt=>mX p t c)else norm ((l.take k).flatMap λt=>mX p t c)) (λj _=>amn));have afN:=U ((lJ.o.trans2 (aA.of_below (own:=λ_=>False) iy.o) (λq h=>h.elim)).trans2 hT (λq h=>.inr ae));have afY:=U (afX.o.turns hT ae);have Ho:=U hs;clear hC hR hT ho hs hD c0 hCo aiM G6 HMW Fu zZ aZ qC af2 afZ;have lU:=HT0.o.size;gi_wp2
      gi_loopw [104] (λacX wr=>∃c:Nat,c≤n∧acX=.int .i64 c∧Hid (∃vg,nV w4.heap.size g10 (λj=>j*2) n (λc'=>if c'<c then norm ((l.take (k+1)).flatMap λt=>mX p t c')else norm ((l.take k).flatMap λt=>mX p t c')) vg (nM n vg bl) wr)∧Hid (aA (λq=>q=g10) W8 wr)) (λacX _=>n-(intOf acX).toNat)
      case atStart=>exact⟨0,ae,rfl,U ⟨vo,Yc.o⟩,U (aA.refl _ _)⟩
      case round=>
       obtain⟨c,hc,rfl,HCV,wM⟩:=hrel;by_cases hlc:c<n
       ·have i7:(0:Int)≤(c:Int):=ae;have i8:(c:Int)<(n:Int):=ae;obtain⟨vg,Kz⟩:=HCV.o;have uE:=aeE.o.turns wM.o ae (λj q hj hq h=>by have:=((aeE.o.sp j hj).lt q hq).1;omega);have e15:=(afY.o.turns wM.o ae).cell 0;have k15:=(afY.o.turns wM.o ae).lt;simp only[aK]at e15;have e1:=(uE.bx.cell c).trans (uE.cell c hlc);have k1:=uE.bx.lt;have h1:=uE.sp c hlc;rw[hp.o,awE HP.o]at h1;have hg:=Kz.sp c hlc;rw[aD ae]at hg;have hgc:=Kz.cell c hlc;have eO:=U (jT h1);have nE:=U (jT hg);have hci:=U (ahE HP.o (l.take k) c);have hmi:=U (aw3 HP.o (t1,t2,t3) c);have HCG:=U Kz;have kg:=Kz.bx.lt;clear uE h1 hg Kz;gi_wp2_with fail;refine Ou ?_;refine rU [9] [9] 0 [] [(0,[0,1,2,3,4,5,6,7,8],9)] [] [] [(0,[_,_,_,_,_,_,_,_,_],9,_)] [] ?_;refine aH (iP ?_)
        (repeat(go_big_quiet_step (fail)));refine aH ?_
        intro nq;go_wp2_with fail;have hbq:BL wr (wr.drewN nq):=Bl.drewN (aB _ _) nq
        refine(asN g10 (c*2) (nM n vg bl) (vg c) _ (norm ((l.take k).flatMap λt=>mX p t c)) (mX p (t1,t2,t3) c) (wr.drewN nq) (HCG.o.bx.drewN nq) hgc (nE.o.below hbq) (eO.o.below hbq) (λs hs=>by
         rcases oH.1 hs with h|h
         ·have:=hci.o.2.1 s h;omega
         ·have:=hmi.o.1 s h;omega) (by have:=hci.o.2.2;omega) (by have:=hmi.o.2;omega)).mono ?_
        rintro e GN ⟨rfl,v',hx,ho,htt⟩;rw[arT kR.o]at ho;obtain⟨v2,QG,KA,Vr⟩:=(HCG.o.below hbq).put hlc (Ka.of_add hx ho htt (by have:=hbq.size;have:=wM.o.size;have:=afN.o.size;omega));have Aa:=U QG;have HT3:=U ((aA.of_below (own:=λq=>q=g10) hbq).trans htt);clear hx ho htt QG KA Vr;go_wp2;refine bS _ rfl (jl ?_);simp only[iI,I8];gi_wp2_with fail;have mg:nV w4.heap.size g10 (λj=>j*2) n _ _ ((nM n vg bl).set (c*2) v2) GN:=Aa.o;rw[arW]at mg;refine⟨⟨c+1,ae,aY,U ⟨_,mg.same (λj hj=>?_)⟩,U (wM.o.trans HT3.o)⟩,GG⟩;by_cases e:j=c
        ·subst e;rw[aG rfl,aG ae]
        ·rw[aD e];by_cases h:j<c
         ·exact aFB
         ·rw[aD h,aD ae]
       ·obtain rfl:c=n:=ae;gi_wp2_with fail;obtain⟨vg,Kz⟩:=HCV.o;refine⟨⟨k+1,_,⟨ae,U ⟨vg,Kz.same (λj hj=>by rw[aG hj])⟩,U (afN.o.trans wM.o),U (mh.o.turns wM.o (λD hD e=>by rw[e]at hD;exact xX ((Yc.o.bx.cell _).trans (Yc.o.cell 0 ae)) hD))⟩,Dc _ _ _ rfl⟩,?_⟩;simp[intOf];omega
     case body=>
      rintro ll own pre x a1 W' ⟨b17,⟨h1,h2,h3⟩,⟨h4,hM⟩,⟨⟨vf,hC,hR⟩,hT⟩,rfl⟩ ho hs hlt;obtain⟨y,lo,hi⟩:=x;simp only at h1;have apK:=U h1;have OQ:=U hC;have TK:=U hT;have YK:=U hR;have YD:=U ho;have aCC:=U (aA.below iy.o hT iy.o.size (λq e=>ae));have c17:=h1.cell;have Ro:=h1.lt;have Da:=lJ.o.size;have ZO:=afZ.o.turns hT ae;have c3:=ZO.cell 5;have l3:=ZO.lt;simp only[aK,bB]at c3;have HLC:=U (λc=>awF HP.o c pre.length pre rfl hM);have O3:=U (akS h4);obtain⟨lv,hlv⟩:∃v,Hid (gD p y=v):=⟨_,U rfl⟩;have Ma:=U (akM HP.o O3.o.1 O3.o.2);obtain⟨Kn,hc0⟩:∃c:Nat,max lo 0=(c:Int):=⟨(max lo 0).toNat,ae⟩;obtain⟨cb',hc1⟩:∃c:Int,min hi ((n:Int)-1)=c:=⟨_,rfl⟩;have aeH:=U (And.intro hc0 hc1);have Tx:=U (And.intro h4 hM);clear h1 hC hT hR ho hM h4;gi_wp2
      gi_loopw [18] (λLg wr=>∃c:Nat,Kn≤c∧((c:Int)≤cb'+1∨c=Kn)∧Lg=.int .i64 c∧Hid (∃zO,nV (w7.heap.size+2) (W.heap.size+1) (λj=>j) n (λj=>if Kn≤j∧j<c then ik (sJ p pre j) (lv,lv)else sJ p pre j) zO (uT n zO) wr∧∀j q,j<n→(zO j).ownBlock=some q→(vf j).ownBlock=some q∨W'.heap.size≤q)∧Hid (aA (λq=>q=W.heap.size+1∨∃j,j<n∧(vf j).ownBlock=some q) W' wr)) (λLg _=>(cb'+1-intOf Lg).toNat)
      case atStart=>exact⟨Kn,aV _,.inr rfl,rfl,U ⟨vf,OQ.o.same (λj _=>amn),λj q _ hq=>.inl hq⟩,U (aA.refl _ _)⟩
      case round=>
       obtain⟨c,hc,hcu,rfl,HV,jE⟩:=hrel
       have auZ:¬(b17=W.heap.size+1∨∃j,j<n∧(vf j).ownBlock=some b17):=λh=>by
        rcases h with h|⟨j,hj,h⟩
        ·omega
        ·have:=(YK.o j b17 hj h).2;omega
       have Y17:=apK.o.turns jE.o auZ
       have Y3:=ZO.turns jE.o (λh=>by
        rcases h with h|⟨j,hj,h⟩
        ·omega
        ·have:=((OQ.o.sp j hj).lt _ h).1;omega)
       have d1:=Y17.cell 1;have k17:=Y17.lt;have d3:=Y3.cell 5;have k3:=Y3.lt;simp only[aK,bB]at d1 d3;by_cases hle:(c:Int)≤cb'
       ·have hcn:c<n:=by have:=aeH.o;omega
        have VU:=TK.o.size
        have hn0:∀B,B<w7.heap.size+2→B≠W.heap.size+1→¬(B=W.heap.size+1∨∃j,j<n∧(vf j).ownBlock=some B):=λB h1 h2 h=>by
         rcases h with h|⟨j,hj,h⟩
         ·exact h2 h
         ·have:=((OQ.o.sp j hj).lt _ h).1;omega
        have Qq:=(afX.o.turns TK.o ae).turns jE.o (hn0 _ ae ae);have Y8:=(af2.o.turns TK.o ae).turns jE.o (hn0 _ ae ae);have e15:=Qq.cell 0;have e8:=Y8.cell;have k15:=Qq.lt;have k8:=Y8.lt;simp only[aK]at e15;have i7:(0:Int)≤(c:Int):=ae;have i8:(c:Int)<(n:Int):=ae;have hb2':=O3.o;have hY:=U Y8;obtain⟨y1,y2⟩:=hb2';have hpx:p.height=x2:=by rw[←hp.o]
        rw[hpx]at y2;have aoP:Hid (gD ⟨x1,x2,x3,x4,x5,(n:Int),(x7,x8),(x9,dL)⟩ y=lv):=U (by rw[hp.o];exact hlv.o)
        have hh:hts ⟨x1,x2,x3,x4,x5,(n:Int),(x7,x8),(x9,dL)⟩ (t1,t2,t3)≤400001:=by
         rw[hp.o];have h1:0≤(fI p (t1,t2,t3)).1:=by unfold fI rO;exact Int.le_max_left _ _
         have h2:(fI p (t1,t2,t3)).2≤p.height:=by unfold fI;exact Int.min_le_right _ _
         unfold hts;omega
        clear hpx;gi_wp2;refine rU [6] [6] 1 [] [(0,[0,1,2,3,4,5],6)] [] [] [(0,[_,_,_,_,_,_],6,_)] [] ?_;refine aH (ku ?_)
        (repeat(go_big_quiet_step (first|exact ata pc pd pf pg ph y1 y2 aoP|fail)));refine aH ?_
        intro rT jy;go_wp2_with fail;obtain⟨zO,hC',hN⟩:=HV.o;have hC2:=(hC'.below jy).same (L':=λj=>if Kn≤j∧j<c then ik (sJ p pre j) (lv,lv)else sJ p pre j) (λ_ _=>rfl);have hsp:=hC2.sp c hcn;rw[aD ae]at hsp;have LB:=HLC.o c;have avf:=Ma.o;rw[hlv.o]at avf;refine(atf (W.heap.size+1) c (w7.heap.size+2) _ _ (sJ p pre c) lv rT hC2.bx (hC2.cell c hcn) hsp hC2.gb (by have:=jy.size;have:=jE.o.size;omega) (by have:=LB.1;omega) (λs hs=>by have:=LB.2 s hs;omega) ae ae).mono ?_;rintro e GN ⟨rfl,hS⟩;obtain⟨v',QG,KA,Vr⟩:=hC2.put hcn (Ka.of_rise hS);have Aa:=U QG;have HN3:=U KA;have HT3:=U Vr;have HN:=U hN;have avm:=jy.size;clear hS QG KA Vr hC' hC2 hN hsp;go_wp2;refine bS _ rfl (jl ?_);simp only[iI];gi_wp2_with fail;have mg:nV (w7.heap.size+2) (W.heap.size+1) (λj=>j) n _ _ ((uT n zO).set c v') GN:=Aa.o;rw[amH]at mg;refine⟨⟨c+1,ae,.inl ae,aY,U ⟨_,mg.same (λj hj=>?_),λj q hj hq=>?_⟩,U ((jE.o.trans2 (aA.of_below (own:=λ_=>False) jy) (λq h=>h.elim)).trans2 HT3.o (λq h=>?_))⟩,GG⟩
        ·by_cases e:j=c
         ·subst e;rw[aG rfl,aG ae]
         ·rw[aD e];by_cases h:Kn≤j∧j<c
          ·exact aFB
          ·rw[aD h,aD ae]
        ·by_cases e:j=c
         ·subst e;rw[aG rfl]at hq;rcases HN3.o q hq with h|h
          ·exact HN.o j q hj h
          ·exact .inr (by have:=jE.o.size;omega)
         ·rw[aD e]at hq;exact HN.o j q hj hq
        ·rcases h with h|h
         ·exact .inl (.inl h)
         ·rcases HN.o c q hcn h with h1|h1
          ·exact .inl (.inr ⟨c,hcn,h1⟩)
          ·exact .inr ae
       ·gi_wp2_with fail;obtain⟨zO,hC',hN⟩:=HV.o;refine⟨⟨jE.o.size,λq hq=>jE.o.block q ?_ (λh=>?_)⟩,⟨zO,hC'.same (λj hj=>?_),λj q hj hq h=>?_⟩,TK.o.trans2 jE.o (λq h=>?_),?_⟩
        ·rcases hq with(h|h)|h|h|h
         ·omega
         ·omega
         ·exact(YD.o q h).2
         ·omega
         ·omega
        ·rcases h with h|⟨j,hj,h⟩
         ·rcases hq with(e|e)|e|e|e
          ·omega
          ·omega
          ·have:=(YD.o q e).1;omega
          ·omega
          ·omega
         ·have h5:=((OQ.o.sp j hj).lt q h).1;rcases hq with(e|e)|e|e|e
          ·omega
          ·omega
          ·exact(YK.o j q hj h).1 e
          ·omega
          ·omega
        ·rw[akR,hlv.o];have h5:=aeH.o;by_cases h6:Kn≤j∧j<c
         ·rw[aG h6,aG ic]
         ·rw[aD h6,aD ic]
        ·rcases hN j q hj hq with e|e
         ·exact(YK.o j q hj e).1 h
         ·have:=(YD.o q h).2;omega
        ·rcases h with h|⟨j,hj,h⟩
         ·exact .inl h
         ·exact .inr (by have:=((OQ.o.sp j hj).lt q h).1;omega)
        ·intro a b c h;rcases oH.1 h with h|h
         ·exact Tx.o.2 _ h
         ·rw[FW.1 h];exact Tx.o.1
    ·have i2:¬(k:Int)<l.length:=ae;obtain rfl:k=l.length:=ae;have X3:=Y6.o.turns lJ.o ae;have MO:=X3.cell 5;have l3:=X3.lt;simp only[aK,bB]at MO;dsimp only;obtain⟨vf,hC⟩:=G6.o;have HC:=U (hC.same (L':=zk p l) (λj _=>by rw[jc];rfl));have cB:=U (aA.below bX.o lJ.o ae (λk e=>ae));obtain⟨w6,hrun,UN,hb6⟩:=aw8 W n ae;have X6:=U (Ms.o.turns lJ.o ae);have Da:=lJ.o.size;have lgW:=hC.bx.lt;clear hC G6;gi_wp2_with fail;obtain⟨b20,yw⟩:∃b,Hid (W.heap.size=b):=⟨_,U rfl⟩;rw[yw.o]at UN;have abj:=Bl.alloc hb6 (.cells #[.slice (some ⟨b20,0,none⟩) n n] 244);have Pt:=U (UN.alloc (.cells #[.slice (some ⟨b20,0,none⟩) n n] 244));have Hu:=U (Bx.new (W:=w6) (t:=244) (vs:=[.slice (some ⟨b20,0,none⟩) n n]) rfl);rw[←yw.o]at abj Pt Hu;have GX:=U abj;have vR:=UN.lt;have hbe:=yw.o;have aEi:=hb6.size;clear abj UN hb6 hrun;obtain⟨W2,hW2⟩:=nm (w6.alloc (.cells #[.slice (some ⟨W.heap.size,0,none⟩) n n] 244));rw[yw.o]at hW2 GX Pt Hu ⊢;rw[hW2.o]at GX Pt Hu ⊢;rw[yw.o]at lgW Da;clear hbe;have hz2:=Hu.o.lt
     gi_loopw [125] (λac0 wr=>∃k:Nat,k≤n∧ac0=.int .i64 k∧Hid (Bx b20 (vU n vf bl k) wr)∧Hid (aA (λq=>q=b20) W2 wr)∧Hid (∀c:Nat,c<k→¬(c:Int)∈bl→(zk p l c).length≤8)) (λac0 _=>n-(intOf ac0).toNat)
     case atStart=>exact⟨0,ae,rfl,U (by rw[axS];exact Pt.o),U (aA.refl _ _),U (λc hc=>ae)⟩
     case round=>
      obtain⟨k,hk,rfl,HO,wM,H8⟩:=hrel;have hbW2:=GX.o;try rw[←yw.o]at hbW2
      have hC2:=(HC.o.below (by first|exact GX.o|(rw[yw.o];exact GX.o))).turns wM.o ae (λj q hj hq h=>by have:=((HC.o.sp j hj).lt q hq).2;have:=yw.o;omega);have Ql:=(X6.o.next (by first|exact GX.o|(rw[yw.o];exact GX.o))).turns wM.o ae;have agL:=Hu.o.turns wM.o ae;have fP:=U (aA.below (Bl.call cB.o (by first|exact GX.o|(rw[yw.o];exact GX.o))) wM.o (by have:=cB.o.size;have:=GX.o.size;omega) (λq h=>ajp));have HMr:=U ((Fu.o.below (by first|exact GX.o|(rw[yw.o];exact GX.o))).turns wM.o (λD hD e=>by rw[e]at hD;have:=Pt.o.cell 0;rw[List.getElem?_replicate,aG ae]at this;exact xX this hD));clear hbW2;have f6:=Ql.free 0;have l6:=Ql.lt;have c6:=Ql.cell 0;have c21:=agL.cell 0;have l21:=agL.lt;simp only[aK]at c6 c21;by_cases hlt:k<n
      ·have d0:=(hC2.bx.cell (k*2)).trans (hC2.cell k hlt);have d1:=(hC2.bx.cell (k*2+1)).trans (aah hlt).2;have lg:=hC2.bx.lt;obtain⟨ak,ck,ek⟩:=bv (hC2.sp k hlt);rw[ek]at d0;have HEK:=U ek;have i7:(0:Int)≤(k:Int):=ae;have i8:(k:Int)<(n:Int):=ae;have jm:=U (ahE HP.o l k).2.2;obtain⟨ln,hln⟩:∃m:Nat,Hid ((zk p l k).length=m):=⟨_,U rfl⟩;rw[hln.o]at d0 HEK;have aDO:ln≤12001:=by have:=jm.o;have:=hln.o;unfold zk at this;omega
       have tF:=U hC2;clear hC2 ek;by_cases hbk:(k:Int)∈bl
       ·rw[En hbk]at d1;have BK:=U hbk;clear hbk;gi_wp2_with fail;refine⟨⟨k+1,ae,aY,U (by rw[axP BK.o];exact HO.o.alloc _),U (wM.o.trans (aA.alloc _ _ _)),U (λc hc hn=>?_)⟩,GG⟩;by_cases e:c<k
        ·exact H8.o c e hn
        ·obtain rfl:c=k:=ae;exact absurd BK.o hn
       ·rw[Kr hbk]at d1;have BK:=U hbk;clear hbk;by_cases h8:8<ln
        ·have i9:(8:Int)<(ln:Int):=ae;gi_wp2_with fail;have xQ:=(Ql.set 0 (.slice none 0 0) aj).alloc (.cells #[.slice ak ln ck,.bool false] 292);have JR:aA (λq=>q=w.heap.size+1) wr ((wr.setCell ⟨w.heap.size+1,0,none⟩ (.slice none 0 0)).alloc (.cells #[.slice ak ln ck,.bool false] 292)):=(aA.setCell (λq=>q=w.heap.size+1) wr ⟨w.heap.size+1,0,none⟩ (.slice none 0 0) rfl).trans (aA.alloc _ _ _);have Yz:=HMr.o.turns JR (λD hD e=>by rw[e]at hD;exact xX c6 hD);have G5:=aA.below fP.o JR (by have:=fP.o.size;omega) (λk e=>ae);refine KS (lo:=w4.heap.size) ds _ Yz (λW' t _=>?_);have Ga:=xQ.turns t (λh=>xX (xQ.cell 0) h.2);obtain⟨tR,uC,qL⟩:=Ga.obj aj;refine⟨_,RQ rfl _ _ _ tR _ uC _ rfl qL underlying244 rfl aF,none,0,0,2,rfl,?_,(λh=>ae),?_⟩
         ·rw[hp.o];exact av0 HP.o TL.o pG.o (c:=k) (by rw[←hp.o];exact i8) BK.o (by rw[hln.o];exact h8)
         ·exact aA.below G5 t (by have:=G5.size;exact this) (λq h=>Vu)
        ·have i9:¬(8:Int)<(ln:Int):=ae;have o1:=HO.o.lt;have o2:=HO.o.cell k;have o3:=HO.o.free k;have o4:(vU n vf bl k)[k]?=some (.slice none 0 0):=by unfold vU;rw[WF hlt,if_neg (λh=>ae)]
         rw[o4]at o2;gi_wp2_with fail;refine⟨⟨k+1,ae,aY,U (by rw[←axR BK.o,HEK.o];exact(HO.o.set k _ (by rw[axQ];exact hlt)).alloc _),U ((wM.o.trans (aA.setCell (λq=>q=b20) wr ⟨b20,k,none⟩ (.slice ak ln ck) rfl)).trans (aA.alloc _ _ _)),U (λc hc hn=>?_)⟩,GG⟩;by_cases e:c<k
         ·exact H8.o c e hn
         ·obtain rfl:c=k:=ae;rw[hln.o];omega
      ·obtain rfl:k=n:=ae;gi_wp2_with fail;have xQ:=Ql.set 0 (.slice (some ⟨b20,0,none⟩) k k) aj;have JR:=aA.setCell (λq=>q=w.heap.size+1) wr ⟨w.heap.size+1,0,none⟩ (.slice (some ⟨b20,0,none⟩) k k) rfl;have Yz:=HMr.o.turns JR (λD hD e=>by rw[e]at hD;exact xX c6 hD);have G5:=aA.below fP.o JR (by have:=fP.o.size;omega) (λk e=>ae);have Hf:=HO.o.turns JR Vu;have Yd:=hC2.turns JR Vu (λj q hj hq h=>by have:=((hC2.sp j hj).lt q hq).1;have:=bX.o.size;omega);refine KS (lo:=w4.heap.size) ds _ Yz (λW' t _=>?_);have Ga:=xQ.turns t (λh=>xX (xQ.cell 0) h.2);obtain⟨tR,uC,qL⟩:=Ga.obj aj;have hB':=aA.below G5 t (by have:=G5.size;exact this) (λq h=>Vu);refine⟨_,RQ rfl _ _ _ tR _ uC _ rfl qL underlying244 rfl aF,some ⟨b20,0,none⟩,k,k,0,rfl,?_,λ_=>?_,hB'⟩
       ·rw[hp.o];exact avZ HP.o TL.o pG.o (λc hc hn=>H8.o c (by rw[←hp.o]at hc;exact Int.ofNat_lt.1 hc) hn)
       ·rw[hp.o];refine av2 (base:=w4.heap.size) (vf:=vf) (by rw[←hp.o]) ae (Hf.turns t (λh=>xX ((Hf.cell 0).trans (by unfold vU;exact WF ae)) h.2)) (λj hj=>fO (Yd.sp j hj) t (λq hq h=>Wj (Yd.sp j hj) q hq h.2)) Vu (λj q hj hq=>by have:=((Yd.sp j hj).lt q hq).1;have:=bX.o.size;omega)
theorem asK(p:bU)(va vb:Value)(l:List dF)(bl:List Int)(w:World)(ha:aC Shape.pnt w va l)(hb:aC Shape.int w vb bl)(hp:fA p=true)(htr:(qp l).1≠0):
  Calls prog 163 #[K9 p,va,vb] w λe w'=>∃(av:Option Addr) (nv cv:Nat) (q:Int),e=.returned (.tuple #[.agg #[.slice av nv cv],q])∧(jY p l bl).2=q∧(q=0→Shape.span.list.list.reads (λb=>w.heap.size≤b) w' [.slice av nv cv] (sI p l bl))∧BL w w':=by
 obtain⟨aa,ca,rfl,aup,VF⟩:=ha.shape;obtain⟨ab,cb,rfl,auq,QY⟩:=hb.shape;obtain⟨q,hq⟩:=nm ((qp l).1);have HQ:Hid ((jY p l bl).2=q):=U (by unfold jY;rw[if_pos hp,if_pos htr];exact hq.o);have vG:Hid (Gx p l=q):=U (by unfold Gx;rw[if_pos hp];exact hq.o);have hq0:¬q=0:=by rw[←hq.o];exact htr
 have hq1:(q==0)=false:=by simpa using hq0
 have hq2:(q != 0)=true:=by simpa using hq0
 have HP:=U hp;have HA:=U ha;have HQ0:=U hq0;clear htr hp ha hb hq0;refine(xW (n:=3)).1 ?_;unfold K9;refine zb func163 rfl trivial ?_ rfl;simp only[ntmps163,jb,dS,fU,Nat.reduceAdd,Nat.reduceSub,kv,kw,kC,kz,fE,gB];have hfn:∀k,Fence.wide.fn k:=λ_=>trivial;have hdp:¬(Fence.wide.depth.isSome=true):=kL;gi_wp2_with fail;have bI:=U (Bx.new (W:=w.alloc (.cells (uR p).toArray 51)) (B:=w.heap.size+1) (t:=244) (vs:=[.slice none 0 0]) aj);have HB0:=U (Bl.alloc (Bl.alloc (aB w.heap.size w) (.cells (uR p).toArray 51)) (.cells #[.slice none 0 0] 244));refine(jH jJ (aio p _ l _ (HA.o.below HB0.o))).mono ?_;rintro e w1 ⟨f,rfl,h1,hb1⟩;rw[h1 HP.o,vG.o];have HB1:=U (Bl.call HB0.o hb1);have bI:=U (bI.o.next hb1);clear hb1 HB0 h1;have l6:=bI.o.lt;have CJ:=bI.o.alloc (.cells (uR p).toArray 285);have c6:=CJ.cell 0;have f6:=CJ.free 0;have l6a:=CJ.lt;simp only[aK]at c6;simp only[uR]at c6 f6 l6a;gi_wp2_with fail;have xQ:=(bI.o.set 0 (.slice none 0 0) aj).alloc (.cells (uR p).toArray 285);have G5:=Bl.alloc (Bl.setCell HB1.o (p:=⟨w.heap.size+1,0,none⟩) Ll (.slice none 0 0)) (.cells (uR p).toArray 285);refine KS (lo:=w.heap.size) [] _ Marks.nil (λW' t _=>?_)
 have Ga:=xQ.turns t (λh=>xX (xQ.cell 0) h.2);obtain⟨tR,uC,qL⟩:=Ga.obj aj;exact⟨_,RQ rfl _ _ _ tR _ uC _ rfl qL underlying244 rfl aF,none,0,0,q,rfl,HQ.o,(λh=>absurd h HQ0.o),aA.below G5 t (by have:=G5.size;exact this) (λq h=>h.1)⟩
theorem ah1(p:bU)(va vb:Value)(l:List dF)(bl:List Int)(w:World)(ha:aC Shape.pnt w va l)(hb:aC Shape.int w vb bl)(hp:fA p=true):
  Calls prog 163 #[K9 p,va,vb] w λe w'=>∃(av:Option Addr) (nv cv:Nat) (q:Int),e=.returned (.tuple #[.agg #[.slice av nv cv],q])∧(jY p l bl).2=q∧(q=0→Shape.span.list.list.reads (λb=>w.heap.size≤b) w' [.slice av nv cv] (sI p l bl))∧BL w w':=by
 by_cases h:(qp l).1=0
 ·exact asL p va vb l bl w ha hb hp h
 ·exact asK p va vb l bl w ha hb hp h
end
section
attribute [local go_sem] Qv
def aaa(s:vJ):Int:=Il s.band s.zlo s.zhi s.rate
theorem ars(s:vJ):aaa s=if Bu s.band s.zlo s.zhi s.rate=true then 0 else 30:=by
 unfold aaa Il
 have:vV s.band s.zlo s.zhi s.rate=Bu s.band s.zlo s.zhi s.rate:=by
  rw[Bool.eq_iff_iff,ax1];unfold Bu;simp only[decide_eq_true_eq];try omega
 rw[this]
theorem acB{s:vJ}{vb vs:Value}{w:World}(h:Bx B (iq s vt vb vr vs) w):w.cell? ⟨B,0,none⟩=some (.int .i64 s.paper.pitch)∧w.cell? ⟨B,1,none⟩=some (.int .i64 s.paper.height)∧w.cell? ⟨B,2,none⟩=some (.int .i64 s.paper.radius)∧w.cell? ⟨B,3,none⟩=some (.int .i64 s.paper.low)∧w.cell? ⟨B,4,none⟩=some (.int .i64 s.paper.high)∧w.cell? ⟨B,5,none⟩=some (.int .i64 s.paper.cols)∧w.cell? ⟨B,6,none⟩=some (.int .i64 s.paper.al.1)∧w.cell? ⟨B,7,none⟩=some (.int .i64 s.paper.al.2)∧w.cell? ⟨B,8,none⟩=some (.int .i64 s.paper.ac.1)∧w.cell? ⟨B,9,none⟩=some (.int .i64 s.paper.ac.2):=
 ⟨h.cell 0,h.cell 1,h.cell 2,h.cell 3,h.cell 4,h.cell 5,h.cell 6,h.cell 7,h.cell 8,h.cell 9⟩
theorem Sa{s:vJ}{vb vs:Value}{w:World}(h:Bx B (iq s vt vb vr vs) w):w.cell? ⟨B,10,none⟩=some vt∧w.cell? ⟨B,11,none⟩=some vb∧w.cell? ⟨B,12,none⟩=some vr∧w.cell? ⟨B,13,none⟩=some vs∧w.cell? ⟨B,14,none⟩=some (.int .i64 s.band)∧w.cell? ⟨B,15,none⟩=some (.int .i64 s.zlo)∧w.cell? ⟨B,16,none⟩=some (.int .i64 s.zhi)∧w.cell? ⟨B,17,none⟩=some (.int .i64 s.rate):=
 ⟨h.cell 10,h.cell 11,h.cell 12,h.cell 13,h.cell 14,h.cell 15,h.cell 16,h.cell 17⟩
theorem aBM(x:aJ)(f:aQ)(cx cf:List Value)(w:World)(hx:dM w x cx)(hf:nW w f cf):
  Calls prog 106 #[.agg cx.toArray,.agg cf.toArray] w (oK (lZ x f) w):=by
 have hof:=hf.one;have hol:=hf.len;obtain⟨va,vs,vr,rfl,hX⟩:=hx;obtain⟨vt,vb,vra,iO,vm,vn,rfl,⟨ht1,ht2,ht3,IX⟩,hm,hn⟩:=hf;obtain⟨ar,cr,rfl,hr1,hr2⟩:=aC.shape ht3;have tO:=U hX.stas;have HT:=U (And.intro ht1 (And.intro ht2 (And.intro ht3 IX)));have HM:=U hm;have hos:=Lr (s:=f.sheet) (nP ht1) (nP ht2) (nP ht3) (nP IX);have yO:=U hos;clear hX ht1 ht2 ht3 IX hm hn hof hol hos;have X2:=(Bx.new (W:=w) (t:=30) (vs:=dm x va vs vr) rfl).alloc (.cells (iW f vt vb (.slice ar f.sheet.drum.1.length cr) iO vm vn).toArray 65);have X3:=Bx.new (W:=w.alloc (.cells (dm x va vs vr).toArray 30)) (B:=w.heap.size+1) (t:=65) (vs:=iW f vt vb (.slice ar f.sheet.drum.1.length cr) iO vm vn) aj;have HB0:=U (Bl.alloc (Bl.alloc (aB w.heap.size w) (.cells (dm x va vs vr).toArray 30)) (.cells (iW f vt vb (.slice ar f.sheet.drum.1.length cr) iO vm vn).toArray 65));go_in;go_wp2_with (with_reducible_and_instances refine dI 13 ?_)
 generalize (w.alloc (.cells (dm x va vs vr).toArray 30)).alloc (.cells (iW f vt vb (.slice ar f.sheet.drum.1.length cr) iO vm vn).toArray 65)=w0 at *;refine⟨?_⟩;have c20:=X2.cell 0;have c32:=X3.cell 2;simp only[dm,iW,gB,aK,bB]at c20 c32;obtain⟨s1,s2,hs⟩:∃a b,Hid (sS x.stas f.station=(a,b)):=⟨_,_,U rfl⟩;go_wp2_with fail;refine(sof va x.stas f.station w0 (tO.o.below HB0.o)).mono ?_;rintro e w1 ⟨rfl,hb1⟩;rw[hs.o];have bg:=U (X2.next hb1);have bP:=U (X3.next hb1);have HB1:=U (Bl.call HB0.o hb1);clear c20 c32 X2 X3 hb1 tO;have kQ:Hid (lZ x f=(decide (s2=0)&&decide (f.week=x.week)&&fA f.sheet.paper&&decide ((jY f.sheet.paper f.sheet.trace f.sheet.blots).2=0)&&jQ f.sheet.drum&&decide (((f.sheet.drum.1.length:Nat):Int)+1=f.sheet.paper.cols)&&Bu f.sheet.band f.sheet.zlo f.sheet.zhi f.sheet.rate&&decide ((oO f.sheet.drum f.marks).1=0))):=U (by unfold lZ;rw[hs.o]);have vC:Hid (Cx (w.heap.size+1) 4 (iq f.sheet vt vb (.slice ar f.sheet.drum.1.length cr) iO) w1):=U (Cx.part (n:=18) bP.o rfl);go_wp2_with (first|(refine dh fZ rfl vC.o rfl ?_)|(refine xA fZ rfl rfl rfl rfl rfl yO.o ?_)|(with_reducible_and_instances refine dI 24 ?_))
 have uJ:w.heap.size+1<w1.heap.size:=bP.o.lt;have bD:=U (Bx.new (W:=w1) (t:=61) (vs:=iq f.sheet vt vb (.slice ar f.sheet.drum.1.length cr) iO) rfl);replace bg:=U (bg.o.alloc (.cells (iq f.sheet vt vb (.slice ar f.sheet.drum.1.length cr) iO).toArray 61));replace bP:=U (bP.o.alloc (.cells (iq f.sheet vt vb (.slice ar f.sheet.drum.1.length cr) iO).toArray 61));have HB2:=U (Bl.alloc HB1.o (.cells (iq f.sheet vt vb (.slice ar f.sheet.drum.1.length cr) iO).toArray 61));clear HB1 vC;generalize w1.alloc (.cells (iq f.sheet vt vb (.slice ar f.sheet.drum.1.length cr) iO).toArray 61)=w2 at *
 (try unfold BL at *);generalize w1.heap.size=b7 at *
 refine⟨?_⟩;have Qt:=bg.o.cell 6;have Ii:=bP.o.cell 3;simp only[dm,iW,gB,aK,bB]at Qt Ii;by_cases h1:s2=0
 ·subst h1;by_cases h2:f.week=x.week
  ·have q2:(f.week != x.week)=false:=by simp[h2]
   have H2:=U h2;clear h2;obtain⟨p0,p1,p2,p3,p4,p5,p6,p7,p8,p9⟩:=acB bD.o;go_wp2_with fail;refine(aaz f.sheet.paper w2).mono ?_;rintro e w3 ⟨rfl,hb3⟩;have bD:=U (bD.o.next hb3);have bP:=U (bP.o.next hb3);have HB3:=U (Bl.call HB2.o hb3);clear p0 p1 p2 p3 p4 p5 p6 p7 p8 p9 Qt Ii bg hb3 HB2;by_cases hp:fA f.sheet.paper=true
   ·rw[acA hp];have HP:=U hp;clear hp;obtain⟨p0,p1,p2,p3,p4,p5,p6,p7,p8,p9⟩:=acB bD.o;obtain⟨ES,Gt,ET,Gu,oV,Dj,q16,Dk⟩:=Sa bD.o;go_wp2_with fail;refine(ah1 f.sheet.paper vt vb f.sheet.trace f.sheet.blots w3 (aC.below HT.o.1 HB3.o) (aC.below HT.o.2.1 HB3.o) HP.o).mono ?_;rintro e w4 ⟨av,nv,cv,q,rfl,hq,_,hb4⟩;have HQ:=U hq;clear hq;have bD:=U (bD.o.next hb4);have bP:=U (bP.o.next hb4);have bX:=U (Bl.call HB3.o hb4);clear p0 p1 p2 p3 p4 p5 p6 p7 p8 p9 ES Gt ET Gu oV Dj q16 Dk hb4 HB3;by_cases h4:q=0
    ·subst h4;go_wp2_with (with_reducible_and_instances refine dI 49 ?_)
     have bD:=U (bD.o.alloc (.cells #[.slice av nv cv] 244));have bP:=U (bP.o.alloc (.cells #[.slice av nv cv] 244));have eD:=U (Bl.alloc bX.o (.cells #[.slice av nv cv] 244));clear bX;generalize w4.alloc (.cells #[.slice av nv cv] 244)=w5 at *;refine⟨?_⟩;obtain⟨ES,Gt,ET,Gu,oV,Dj,q16,Dk⟩:=Sa bD.o;go_wp2_with fail;refine(Z8 (.slice ar f.sheet.drum.1.length cr) iO f.sheet.drum w5 (aC.below HT.o.2.2.1 eD.o) (aC.below HT.o.2.2.2 eD.o)).mono ?_;rintro e w6 ⟨rfl,hb6⟩;have bD:=U (bD.o.next hb6);have bP:=U (bP.o.next hb6);have dD:=U (Bl.call eD.o hb6);clear ES Gt ET Gu oV Dj q16 Dk hb6 eD;unfold Ip;by_cases h5:jQ f.sheet.drum=true
     ·rw[aG h5];have H5:=U h5;clear h5;obtain⟨ES,Gt,ET,Gu,oV,Dj,q16,Dk⟩:=Sa bD.o;have Qu:=bP.o.cell 22;simp only[iW,iq,uR,fE,gB,aK,bB]at Qu;go_wp2_with fail;refine(arO (.slice ar f.sheet.drum.1.length cr) iO vm f.sheet.drum f.marks w6 (aC.below HT.o.2.2.1 dD.o) (aC.below HT.o.2.2.2 dD.o) (aC.below HM.o dD.o)).mono ?_;rintro e w7 ⟨rfl,bV⟩;obtain⟨m1,m2,hm⟩:∃a b,Hid (oO f.sheet.drum f.marks=(a,b)):=⟨_,_,U rfl⟩;rw[hm.o];have bD:=U (bD.o.next bV);have iy:=U (Bl.call dD.o bV);clear ES Gt ET Gu oV Dj q16 Dk Qu bV dD bP;obtain⟨ES,Gt,ET,Gu,oV,Dj,q16,Dk⟩:=Sa bD.o;have p5:=bD.o.cell 5;simp only[iq,uR,fE,gB,aK,bB]at p5;obtain⟨nd,hnd⟩:∃n:Nat,Hid (f.sheet.drum.1.length=n):=⟨_,U rfl⟩
      have hnb:nd≤199:=by
       have:=H5.o;unfold jQ at this;simp only[Bool.and_eq_true,decide_eq_true_eq]at this;have:=hnd.o;omega
      rw[hnd.o]at ET kQ;by_cases h6:(nd:Int)+1=f.sheet.paper.cols
      ·have q6:(((nd:Int)+1)==f.sheet.paper.cols)=true:=adw;have H6:=U h6;clear h6;go_wp2_with fail;refine(aab f.sheet.band f.sheet.zlo f.sheet.zhi f.sheet.rate w7).mono ?_;rintro e w8 ⟨rfl,bq⟩;have e7:=ars f.sheet;unfold aaa at e7;rw[e7];have cZ:=U (Bl.call iy.o bq);clear ES Gt ET Gu oV Dj q16 Dk p5 bq iy e7;by_cases h7:Bu f.sheet.band f.sheet.zlo f.sheet.zhi f.sheet.rate=true
       ·rw[aG h7];by_cases h8:m1=0
        ·subst h8;have HF:Hid (lZ x f=true):=U (by rw[kQ.o,HQ.o,hm.o];simp[H2.o,HP.o,H5.o,H6.o,h7]);clear h7;go_wp2;go_ret;exact⟨bu HF.o.symm,cZ.o⟩
        ·have q8:(m1==0)=false:=by simpa using h8
         have HF:Hid (lZ x f=false):=U (by rw[kQ.o,hm.o];simp[h8]);clear h7 h8;go_wp2;go_ret;exact⟨bu HF.o.symm,cZ.o⟩
       ·rw[aD h7];have HF:Hid (lZ x f=false):=U (by rw[kQ.o];simp[h7]);clear h7;go_wp2;go_ret;exact⟨bu HF.o.symm,cZ.o⟩
      ·have q6:(((nd:Int)+1)==f.sheet.paper.cols)=false:=adw;have HF:Hid (lZ x f=false):=U (by rw[kQ.o];simp[h6]);clear h6;go_wp2;go_ret;exact⟨bu HF.o.symm,iy.o⟩
     ·rw[aD h5];have HF:Hid (lZ x f=false):=U (by rw[kQ.o];simp[h5]);clear h5;go_wp2;go_ret;exact⟨bu HF.o.symm,dD.o⟩
    ·have q2:(q != 0)=true:=Jl;have HF:Hid (lZ x f=false):=U (by rw[kQ.o,HQ.o];simp[h4]);clear h4;go_wp2;go_ret;exact⟨bu HF.o.symm,Bl.alloc bX.o _⟩
   ·rw[acz hp];have HF:Hid (lZ x f=false):=U (by rw[kQ.o];simp[hp]);clear hp;go_wp2;go_ret;exact⟨bu HF.o.symm,HB3.o⟩
  ·have q2:(f.week != x.week)=true:=by simp[h2]
   have HF:Hid (lZ x f=false):=U (by rw[kQ.o];simp[h2]);clear h2;go_wp2;go_ret;exact⟨bu HF.o.symm,HB2.o⟩
 ·have q2:(s2 != 0)=true:=qO;have HF:Hid (lZ x f=false):=U (by rw[kQ.o];simp[h1]);clear h1;go_wp2;go_ret;exact⟨bu HF.o.symm,HB2.o⟩
def ayx(r:je):List Value:=[.int .i64 r.1,.int .i64 r.2.1,.int .i64 r.2.2.1,.int .i64 r.2.2.2.1,.int .i64 r.2.2.2.2]
theorem aBK(x:aJ)(r:je)(cx:List Value)(w:World)(hx:dM w x cx):
  Calls prog 109 #[.agg cx.toArray,.agg #[r.1,r.2.1,r.2.2.1,r.2.2.2.1,r.2.2.2.2]] w (oK (oW x r) w):=by
 obtain⟨va,vs,vr,rfl,hX⟩:=hx;have tO:=U hX.stas;clear hX;obtain⟨r1,r2,r3,r4,r5⟩:=r;simp only;have X2:=(Bx.new (W:=w) (t:=30) (vs:=dm x va vs vr) rfl).alloc (.cells #[r1,r2,r3,r4,r5] 43);have X3:=Bx.new (W:=w.alloc (.cells (dm x va vs vr).toArray 30)) (B:=w.heap.size+1) (t:=43) (vs:=[.int .i64 r1,.int .i64 r2,.int .i64 r3,.int .i64 r4,.int .i64 r5]) aj;have HB0:=U (Bl.alloc (Bl.alloc (aB w.heap.size w) (.cells (dm x va vs vr).toArray 30)) (.cells #[r1,r2,r3,r4,r5] 43));go_in;go_wp2_with (with_reducible_and_instances refine dI 9 ?_)
 generalize (w.alloc (.cells (dm x va vs vr).toArray 30)).alloc (.cells #[r1,r2,r3,r4,r5] 43)=w0 at *;refine⟨?_⟩;have c20:=X2.cell 0;have c32:=X3.cell 0;simp only[dm,aK,bB]at c20 c32;obtain⟨s1,s2,hs⟩:∃a b,Hid (sS x.stas r1=(a,b)):=⟨_,_,U rfl⟩;go_wp2_with fail;refine(sof va x.stas r1 w0 (tO.o.below HB0.o)).mono ?_;rintro e w1 ⟨rfl,hb1⟩;rw[hs.o];have X2:=X2.next hb1;have X3:=X3.next hb1;have HB1:=U (Bl.call HB0.o hb1);clear c20 c32 hb1 tO;have kQ:Hid (oW x (r1,r2,r3,r4,r5)=(decide (s2=0)&&decide (r2=x.week)&&decide (0≤r3∧r3≤x.ticks)&&decide (0≤r4∧r4≤r5∧r5≤12000))):=U (by unfold oW;rw[hs.o]);have Ii:=X3.cell 3;have c34:=X3.cell 4;have l3:=X3.lt;simp only[aK,bB]at Ii c34;go_wp2_with (with_reducible_and_instances refine dI 20 ?_)
 have X7:=Bx.new (W:=w1) (t:=41) (vs:=[.int .i64 r4,.int .i64 r5]) rfl;have X2:=X2.alloc (.cells #[r4,r5] 41);have X3:=X3.alloc (.cells #[r4,r5] 41);have HB2:=U (Bl.alloc HB1.o (.cells #[r4,r5] 41));clear Ii c34 HB1;generalize w1.alloc (.cells #[r4,r5] 41)=w2 at *
 (try unfold BL at *);generalize w1.heap.size=b7 at *
 refine⟨?_⟩;have Qt:=X2.cell 6;have c24:=X2.cell 4;have c31:=X3.cell 1;have Ii:=X3.cell 2;simp only[dm,aK,bB]at Qt c24 c31 Ii;by_cases h1:s2=0
 ·subst h1;by_cases h2:r2=x.week
  ·have q2:(r2==x.week)=true:=by simp[h2]
   have H2:=U h2;clear h2;go_wp2_with fail;refine(win 0 x.ticks r3 w2).mono ?_;rintro e w3 ⟨rfl,hb3⟩;have HB3:=U (Bl.call HB2.o hb3);have X7:=X7.next hb3;have d0:=X7.cell 0;have d1:=X7.cell 1;simp only[aK,bB]at d0 d1;clear hb3 HB2 Qt c24 c31 Ii;by_cases h3:0≤r3∧r3≤x.ticks
   ·rw[show(decide (0≤r3)&&decide (r3≤x.ticks))=true by simp[h3]];have H3:=U h3;clear h3;by_cases h4:0≤r4
    ·by_cases h5:r4≤r5
     ·by_cases h6:r5≤12000
      ·have HF:Hid (oW x (r1,r2,r3,r4,r5)=true):=U (by rw[kQ.o];simp[H2.o,H3.o,h4,h5,h6]);go_wp2;go_ret;exact⟨bu HF.o.symm,HB3.o⟩
      ·have HF:Hid (oW x (r1,r2,r3,r4,r5)=false):=U (by rw[kQ.o];simp[h6]);have q6:decide (r5≤12000)=false:=adw;go_wp2;go_ret;exact⟨bu HF.o.symm,HB3.o⟩
     ·have HF:Hid (oW x (r1,r2,r3,r4,r5)=false):=U (by rw[kQ.o];simp[h5]);have q5:decide (r4≤r5)=false:=by simpa using h5
      go_wp2;go_ret;exact⟨bu HF.o.symm,HB3.o⟩
    ·have HF:Hid (oW x (r1,r2,r3,r4,r5)=false):=U (by rw[kQ.o];simp[h4]);have q4:decide (0≤r4)=false:=Jl;go_wp2;go_ret;exact⟨bu HF.o.symm,HB3.o⟩
   ·have e3:(decide (0≤r3)&&decide (r3≤x.ticks))=false:=by rw[←XH];simpa using h3
    rw[e3];have HF:Hid (oW x (r1,r2,r3,r4,r5)=false):=U (by rw[kQ.o,Kr h3];simp);clear h3 e3;go_wp2;go_ret;exact⟨bu HF.o.symm,HB3.o⟩
  ·have q2:(r2==x.week)=false:=by simp[h2]
   have HF:Hid (oW x (r1,r2,r3,r4,r5)=false):=U (by rw[kQ.o];simp[h2]);clear h2;go_wp2;go_ret;exact⟨bu HF.o.symm,HB2.o⟩
 ·have q2:(s2==0)=false:=qO;have HF:Hid (oW x (r1,r2,r3,r4,r5)=false):=U (by rw[kQ.o];simp[h1]);clear h1;go_wp2;go_ret;exact⟨bu HF.o.symm,HB2.o⟩
theorem aBv(x:aJ)(B:Nat)(cx:List Value)(w:World)(hx:dM w x cx)(hB:Bx B cx w):ZE 108 #[.pointer (some ⟨B,0,none⟩)] (λr=>!oW x r) w:=by
 intro W r hb;have HX:=U (hx.below hb);have HL:=U hx.len;have cB:=U (hB.next hb);obtain⟨r1,r2,r3,r4,r5⟩:=r;go_in;have jV:Hid (Cx B 0 cx (W.alloc (.cells #[r1,r2,r3,r4,r5] 43))):=U (Cx.whole (cB.o.alloc _));go_wp2_with (refine dh bK rfl jV.o HL.o ?_)
 have hb0:=Bl.alloc (aB W.heap.size W) (.cells #[r1,r2,r3,r4,r5] 43);refine(aBK x (r1,r2,r3,r4,r5) cx _ (HX.o.below hb0)).mono ?_;rintro e w1 ⟨rfl,hb1⟩;have HB1:=U (Bl.call hb0 hb1);clear hb0 hb1;obtain⟨q,hq⟩:=nm (oW x (r1,r2,r3,r4,r5));rw[hq.o];go_wp2;go_ret;exact⟨bu (by rw[hq.o]),HB1.o⟩
theorem asZ(h:0<x.sheets.length):rD x 0=lZ x x.sheets[0]:=by
 unfold rD;rw[List.getElem?_eq_getElem h];simp
theorem asY(h:k+1<x.sheets.length):rD x (k+1)=(lZ x x.sheets[k+1]&&decide ((x.sheets[k]'(by omega)).station<x.sheets[k+1].station)):=by
 unfold rD;rw[List.getElem?_eq_getElem h];simp only[List.getElem?_eq_getElem (show k<x.sheets.length from ae)]
theorem aaA{w:World}{b:Nat}(h:nW w f cs)(hc:Cx b o cs w):w.cell? ⟨b,o+2,none⟩=some (.int .i64 f.station):=by
 obtain⟨vt,vb,vr,vs,vm,vn,rfl,_⟩:=h;exact hc.2 2 (by simp[iW])
theorem SG(x:aJ)(cx:List Value)(w:World)(hx:dM w x cx):
  Calls prog 64 #[.agg cx.toArray] w (Eg (dA x) w):=by
 have bZ:=U hx;have bE:=U hx.len;obtain⟨va,vs,vr,rfl,hX⟩:=hx;obtain⟨kD,jI,rfl,hs1,hs2⟩:=hX.sheets.shape;obtain⟨Eh,El,rfl,ha1,ha2⟩:=hX.stas.shape;obtain⟨MM,M3,rfl,hr1,hr2⟩:=hX.reads.shape;unfold maxLen at hs2 hr2 ha2;have HX:=U hX;clear hX;go_in;go_wp2_with (with_reducible_and_instances refine dI 9 ?_)
 have X1:=Bx.new (W:=w) (t:=30) (vs:=dm x (.slice Eh x.stas.length El) (.slice kD x.sheets.length jI) (.slice MM x.reads.length M3)) rfl;have HB0:=U (Bl.alloc (aB w.heap.size w) (.cells (dm x (.slice Eh x.stas.length El) (.slice kD x.sheets.length jI) (.slice MM x.reads.length M3)).toArray 30));generalize w.alloc (.cells (dm x (.slice Eh x.stas.length El) (.slice kD x.sheets.length jI) (.slice MM x.reads.length M3)).toArray 30)=w0 at *;refine⟨?_⟩;have c0:=X1.cell 0;simp only[dm,aK,bB]at c0;obtain⟨s1,s2,hs⟩:∃a b,Hid (jU x.stas=(a,b)):=⟨_,_,U rfl⟩;go_wp2_with fail;refine(adi _ x.stas w0 (HX.o.stas.below HB0.o)).mono ?_;rintro e w1 ⟨rfl,hb1⟩;rw[hs.o];have X1:=X1.next hb1;have HB1:=U (Bl.call HB0.o hb1);clear c0 hb1 HB0;by_cases h1:s1=0
 ·subst h1;have c0:=X1.cell 0;have c1:=X1.cell 1;have c2:=X1.cell 2;have c3:=X1.cell 3;have c4:=X1.cell 4;have c5:=X1.cell 5;simp only[dm,aK,bB]at c0 c1 c2 c3 c4 c5;go_wp2_with (with_reducible_and_instances refine dI 20 ?_)
  have hbl:=Bl.alloc (aB w1.heap.size w1) (.cells #[.slice Eh x.stas.length El,x.fixed,x.each,x.term,x.ticks,x.clerks] 26);have X5:=Bx.new (W:=w1) (t:=26) (vs:=[.slice Eh x.stas.length El,.int .i64 x.fixed,.int .i64 x.each,.int .i64 x.term,.int .i64 x.ticks,.int .i64 x.clerks]) rfl;have X1:=X1.next hbl;have HB2:=U (Bl.call HB1.o hbl);have vQ:w1.heap.size≤w1.heap.size:=aV _;clear c0 c1 c2 c3 c4 c5 hbl HB1 vQ;generalize w1.alloc (.cells #[.slice Eh x.stas.length El,x.fixed,x.each,x.term,x.ticks,x.clerks] 26)=w2 at *
  (try unfold BL at *);generalize w1.heap.size=b5 at *
  refine⟨?_⟩;have HW:Hid (dA x=if BF x.fixed x.each=true∧(1≤x.ticks∧x.ticks≤400)∧(0≤x.term∧x.term≤x.ticks)∧(0≤x.week∧x.week≤10000)∧x.sheets.length≤64∧x.reads.length≤64∧(List.range x.sheets.length).all (rD x)=true∧x.reads.all (oW x)=true then 0 else 70):=U (by unfold dA;rw[hs.o,if_neg (λh=>h rfl)]);have d1:=X5.cell 1;have d2:=X5.cell 2;simp only[aK,bB]at d1 d2;go_wp2_with fail;refine(am9 x.fixed x.each w2).mono ?_;rintro e w3 ⟨rfl,hb3⟩;have X1:=X1.next hb3;have X5:=X5.next hb3;have HB3:=U (Bl.call HB2.o hb3);clear d1 d2 hb3 HB2;by_cases h2:BF x.fixed x.each=true
  ·rw[aG h2];have H2:=U h2;clear h2;have d4:=X5.cell 4;simp only[aK,bB]at d4;go_wp2_with fail;refine(win 1 400 x.ticks w3).mono ?_;rintro e w4 ⟨rfl,hb4⟩;have X1:=X1.next hb4;have X5:=X5.next hb4;have bX:=U (Bl.call HB3.o hb4);clear d4 hb4 HB3;by_cases h3:1≤x.ticks∧x.ticks≤400
   ·rw[show(decide (1≤x.ticks)&&decide (x.ticks≤400))=true by simp[h3]];have H3:=U h3;clear h3;have d4:=X5.cell 4;have d3:=X5.cell 3;simp only[aK,bB]at d4 d3;go_wp2_with fail;refine(win 0 x.ticks x.term w4).mono ?_;rintro e w5 ⟨rfl,hb5⟩;have X1:=X1.next hb5;have X5:=X5.next hb5;have eD:=U (Bl.call bX.o hb5);clear d4 d3 hb5 bX;by_cases h4:0≤x.term∧x.term≤x.ticks
    ·rw[show(decide (0≤x.term)&&decide (x.term≤x.ticks))=true by simp[h4]];have H4:=U h4;clear h4;have d6:=X1.cell 6;simp only[dm,aK,bB]at d6;go_wp2_with fail;refine(win 0 10000 x.week w5).mono ?_;rintro e w6 ⟨rfl,hb6⟩;have X1:=X1.next hb6;have dD:=U (Bl.call eD.o hb6);clear d6 hb6 eD X5;by_cases h5:0≤x.week∧x.week≤10000
     ·rw[show(decide (0≤x.week)&&decide (x.week≤10000))=true by simp[h5]];have H5:=U h5;clear h5;have d7:=X1.cell 7;have d8:=X1.cell 8;simp only[dm,aK,bB]at d7 d8;by_cases h6:x.sheets.length≤64
      ·by_cases h7:x.reads.length≤64
       ·have q6:¬(64:Int)<(x.sheets.length:Int):=ae;have q7:¬(64:Int)<(x.reads.length:Int):=ae;go_wp2_with fail
        have Yi:Hid (∀j,j<x.sheets.length→rD x j=false→dA x=70):=U (λj hj h=>by
         rw[HW.o,aD (λg=>?_)];have:=mq.1 g.2.2.2.2.2.2.1 j (fD.2 hj)
         rw[h]at this;cases this)
        have aZ:=U X1;clear d7 d8 X1 q6 q7
        go_loopw [60] (λs60 wr=>∃k:Nat,k≤x.sheets.length∧s60=.int .i64 k∧Hid (∀j,j<k→rD x j=true)∧Hid (BL w wr)∧Hid (Bx w.heap.size (dm x (.slice Eh x.stas.length El) (.slice kD x.sheets.length jI) (.slice MM x.reads.length M3)) wr)) (λs60 _=>x.sheets.length-(intOf s60).toNat)
        case atStart=>exact⟨0,ae,rfl,U (λj hj=>ae),dD,aZ⟩
        case round=>
         clear dD aZ;obtain⟨k,hk,rfl,HA,dD,aZ⟩:=hrel;by_cases hlt:k<x.sheets.length
         ·obtain⟨b,o,cf,e1,hbl,hF,hC⟩:=CW (HX.o.sheets.below dD.o) hlt
          have Yj:=U (λj (hj:j+1=k)=>by
           obtain⟨_,_,cg,e2,_,hG,hD⟩:=CW (HX.o.sheets.below dD.o) (show j<x.sheets.length from ae);rw[e1]at e2;cases e2
           exact(show _∧_ from⟨aaA hG hD,hj⟩))
          subst e1;have HC:=U hC;have jm:=U hF.len;have ky:=U hF.one;have DU:=U hF;have HST:=U (aaA hF hC);have i1:(0:Int)≤(k:Int):=ae;have i2:(k:Int)<x.sheets.length:=ae;clear hC hF;go_wp2_with (first|(refine dh gH rfl HC.o jm.o ?_)|(refine xA gH rfl rfl rfl rfl jm.o ky.o ?_))
          have Ff:=U (Bx.new (W:=wr) (t:=65) (vs:=cf) rfl);have KG:=Bl.alloc (aB wr.heap.size wr) (.cells cf.toArray 65);have aZ:=U (aZ.o.next KG);have iy:=U (Bl.call dD.o KG);have DU:=U (DU.o.below KG);have HST:=U ((KG.cell (p:=⟨b,o+k*24+2,none⟩) hbl).trans HST.o);have Yj:=U (λj (hj:j+1=k)=>(KG.cell (p:=⟨b,o+j*24+2,none⟩) hbl).trans (Yj.o j hj).1);have lb7:b<(wr.alloc (.cells cf.toArray 65)).heap.size:=by have:=KG.size;omega
          have Ro:w.heap.size<(wr.alloc (.cells cf.toArray 65)).heap.size:=aZ.o.lt;clear KG dD HC hbl;generalize wr.alloc (.cells cf.toArray 65)=w7 at *
          (try unfold BL at *);generalize wr.heap.size=b7 at *
          have c72:=Ff.o.cell 2;have c17:=aZ.o.cell 7
          have ec2:cf[2]?=some (.int .i64 x.sheets[k].station):=by
           obtain⟨vt,vb,vr,vs,vm,vn,e,_⟩:=DU.o;rw[e];rfl
          rw[ec2]at c72;simp only[dm,aK,bB]at c17;have l7:=Ff.o.lt;clear ec2;have Tj:Hid (∀nq,Calls prog 106 #[.agg #[.slice Eh x.stas.length El,x.fixed,x.each,x.term,x.ticks,x.clerks,x.week,.slice (some ⟨b,o,none⟩) x.sheets.length jI,.slice MM x.reads.length M3],.agg cf.toArray] (w7.drewN nq) (oK (lZ x x.sheets[k]) (w7.drewN nq))):=U (λnq=>aBM x x.sheets[k] _ cf _ (bZ.o.below (Bl.drewN iy.o nq)) (DU.o.below (Bl.drewN (aB _ _) nq)));obtain⟨qs,VO⟩:∃q,Hid (lZ x x.sheets[k]=q):=⟨_,U rfl⟩
          have afy:Hid (∀W,qs=true→rD x k=true→BL w7 W→(∀j,j<k+1→rD x j=true)∧BL w W∧Bx w.heap.size (dm x (.slice Eh x.stas.length El) (.slice (some ⟨b,o,none⟩) x.sheets.length jI) (.slice MM x.reads.length M3)) W):=U (λW _ hf hb=>⟨λj hj=>by
           by_cases e:j<k
           ·exact HA.o j e
           ·obtain rfl:j=k:=ae
            exact hf,Bl.call iy.o hb,aZ.o.next hb⟩)
          by_cases h0:k=0
          ·have q0:¬(0:Int)<(k:Int):=ae;have RO:decide ((0:Int)<(k:Int))=false:=by simpa using q0
           have q0n:¬0<k:=ae;have q0d:decide (0<k)=false:=by simpa using q0n
           have xG:Hid (rD x k=qs):=U (by subst h0;rw[asZ hlt];exact VO.o);have wP:=U aZ.o;clear h0;refine iQ [17] [17] 0 [] [(1,[0,1,2,3,4,5,6,7,8,9,10,11,12,13,14,15,16],17)] [18,19] [] [(1,[_,_,_,_,_,_,_,_,_,_,_,_,_,_,_,_,_],17,_)] [_,_] ?_;refine aH (iP ?_)
           (repeat(first|(go_big_quiet_want;(apply bH eH gH rfl);(focus exact Cx.whole Ff.o);(focus exact jm.o);go_big_quiet_op;go_big_quiet_on)|(go_big_quiet_want;(first|apply bH eH bK rfl|apply bH eU bK rfl|apply bH eH gH rfl|apply bH eU gH rfl|apply bH eH fZ rfl|apply bH eU fZ rfl|apply bH eH mV rfl|apply bH eU mV rfl);(focus exact AU);(focus exact rfl);go_big_quiet_op;go_big_quiet_on)|go_big_quiet_step (first|fail)));refine aH ?_
           intro nq;go_wp2_with fail;refine(Tj.o nq).mono ?_;rintro e w8 ⟨rfl,bq⟩;rw[VO.o];have cZ:=U (Bl.call (Bl.drewN (aB w7.heap.size w7) nq) bq);clear bq
           cases qs with
           |true=>
            go_wp2;refine bS _ rfl (qy ?_)
            (repeat(go_big_quiet_step (fail)));refine aH ?_
            intro n2;have hre:=afy.o (w8.drewN n2) aj xG.o (Bl.drewN cZ.o n2);have vG:=U hre;clear hre;go_wp2;go_roundw
            case rel=>exact⟨k+1,ae,aY,U vG.o.1,U vG.o.2.1,U vG.o.2.2⟩
            case measure=>exact aFF
           |false=>
            have HF:=U (Yi.o k hlt xG.o);go_wp2;refine bS _ rfl (qy ?_)
            (repeat(go_big_quiet_step (fail)));refine aH ?_
            intro n2;go_wp2;go_ret;exact⟨gW HF.o.symm,Bl.drewN (Bl.call iy.o cZ.o) n2⟩
          ·have h1:1≤k:=ae;have q0:(0:Int)<(k:Int):=ae;have q0n:0<k:=ae;have i6:((k-1:Nat):Int)=(k:Int)-1:=ae;have i7:(0:Int)≤(k:Int)-1:=ae;have i8:(k:Int)-1<x.sheets.length:=ae;have wr1:IntKind.i64.wrap ((k:Int)-1)=(k:Int)-1:=dE _ ae;have c8:=Yj.o (k-1) ae;have hlt1:k-1<x.sheets.length:=ae
           have G7:Hid (rD x k=(qs&&decide ((x.sheets[k-1]'hlt1).station<x.sheets[k].station))):=U (by
            obtain⟨j,rfl⟩:∃j,k=j+1:=⟨k-1,ae⟩
            rw[asY hlt,VO.o];rfl)
           have wP:=U aZ.o;by_cases hle:x.sheets[k].station≤(x.sheets[k-1]'hlt1).station
           ·have HF:=U (Yi.o k hlt (by rw[G7.o,Kr ae];simp));have q9:decide (x.sheets[k].station≤(x.sheets[k-1]'hlt1).station)=true:=zJ;clear hle h1 h0;generalize (x.sheets[k-1]'hlt1).station=pst at *;generalize x.sheets[k].station=cst at *;refine iQ [17] [17] 0 [] [(1,[0,1,2,3,4,5,6,7,8,9,10,11,12,13,14,15,16],17)] [18,19] [] [(1,[_,_,_,_,_,_,_,_,_,_,_,_,_,_,_,_,_],17,_)] [_,_] ?_;refine aH (iP ?_)
            (repeat(first|(go_big_quiet_want;(apply bH eH gH rfl);(focus exact Cx.whole Ff.o);(focus exact jm.o);go_big_quiet_op;go_big_quiet_on)|(go_big_quiet_want;(first|apply bH eH bK rfl|apply bH eU bK rfl|apply bH eH gH rfl|apply bH eU gH rfl|apply bH eH fZ rfl|apply bH eU fZ rfl|apply bH eH mV rfl|apply bH eU mV rfl);(focus exact AU);(focus exact rfl);go_big_quiet_op;go_big_quiet_on)|go_big_quiet_step (first|fail)));refine aH ?_
            intro nq;go_wp2;refine bS _ rfl (qy ?_)
            (repeat(go_big_quiet_step (fail)));refine aH ?_
            intro n2;go_wp2;go_ret;exact⟨gW HF.o.symm,Bl.drewN (Bl.drewN iy.o nq) n2⟩
           ·have xG:Hid (rD x k=qs):=U (by rw[G7.o,En ae,Bool.and_true]);have q9:decide (x.sheets[k].station≤(x.sheets[k-1]'hlt1).station)=false:=zJ;clear hle h1 h0;generalize (x.sheets[k-1]'hlt1).station=pst at *;refine iQ [17] [17] 0 [] [(1,[0,1,2,3,4,5,6,7,8,9,10,11,12,13,14,15,16],17)] [18,19] [] [(1,[_,_,_,_,_,_,_,_,_,_,_,_,_,_,_,_,_],17,_)] [_,_] ?_;refine aH (iP ?_)
            (repeat(first|(go_big_quiet_want;(apply bH eH gH rfl);(focus exact Cx.whole Ff.o);(focus exact jm.o);go_big_quiet_op;go_big_quiet_on)|(go_big_quiet_want;(first|apply bH eH bK rfl|apply bH eU bK rfl|apply bH eH gH rfl|apply bH eU gH rfl|apply bH eH fZ rfl|apply bH eU fZ rfl|apply bH eH mV rfl|apply bH eU mV rfl);(focus exact AU);(focus exact rfl);go_big_quiet_op;go_big_quiet_on)|go_big_quiet_step (first|fail)));refine aH ?_
            intro nq;go_wp2_with fail;refine(Tj.o nq).mono ?_;rintro e w8 ⟨rfl,bq⟩;rw[VO.o];have cZ:=U (Bl.call (Bl.drewN (aB w7.heap.size w7) nq) bq);clear bq
            cases qs with
            |true=>
             go_wp2;refine bS _ rfl (qy ?_)
             (repeat(go_big_quiet_step (fail)));refine aH ?_
             intro n2;have hre:=afy.o (w8.drewN n2) aj xG.o (Bl.drewN cZ.o n2);have vG:=U hre;clear hre;go_wp2;go_roundw
             case rel=>exact⟨k+1,ae,aY,U vG.o.1,U vG.o.2.1,U vG.o.2.2⟩
             case measure=>exact aFF
            |false=>
             have HF:=U (Yi.o k hlt xG.o);go_wp2;refine bS _ rfl (qy ?_)
             (repeat(go_big_quiet_step (fail)));refine aH ?_
             intro n2;go_wp2;go_ret;exact⟨gW HF.o.symm,Bl.drewN (Bl.call iy.o cZ.o) n2⟩
         ·obtain rfl:k=x.sheets.length:=ae;have c18:=aZ.o.cell 8;have l18:=aZ.o.lt;simp only[dm,aK,bB]at c18;go_wp2_with fail;refine(ar4 _ x.reads 108 _ (λr=>!oW x r) wr (HX.o.reads.below dD.o) (fo func108 aF rfl) (aBv x w.heap.size _ wr (bZ.o.below dD.o) aZ.o)).mono ?_;rintro e w8 ⟨rfl,bq⟩;have cZ:=U (Bl.call dD.o bq);obtain⟨q,hq⟩:=nm (x.reads.any (λr=>!oW x r));rw[hq.o];have HQ:Hid (x.reads.all (oW x)=!q):=U (by rw[←hq.o];simp[List.not_any_eq_all_not]);have nz:Hid ((List.range x.sheets.length).all (rD x)=true):=U (mq.2 λj hj=>HA.o j (fD.1 hj));clear bq hk c18
          cases q with
          |true=>
           have HF:Hid (dA x=70):=U (by rw[HW.o,aD (λh=>?_)];have:=h.2.2.2.2.2.2.2;rw[HQ.o]at this;cases this);go_wp2;go_ret;exact⟨gW HF.o.symm,cZ.o⟩
          |false=>
           have HF:Hid (dA x=0):=U (by rw[HW.o,aG ⟨H2.o,H3.o,H4.o,H5.o,h6,h7,nz.o,by rw[HQ.o];rfl⟩]);go_wp2;go_ret;exact⟨gW HF.o.symm,cZ.o⟩
       ·have HF:Hid (dA x=70):=U (by rw[HW.o,aD (λh=>h7 h.2.2.2.2.2.1)]);have q6:¬(64:Int)<(x.sheets.length:Int):=ae;have q6':decide ((64:Int)<(x.sheets.length:Int))=false:=by simpa using q6
        have q7:(64:Int)<(x.reads.length:Int):=ae;clear h7;go_wp2;go_ret;exact⟨gW HF.o.symm,dD.o⟩
      ·have HF:Hid (dA x=70):=U (by rw[HW.o,aD (λh=>h6 h.2.2.2.2.1)]);have q6:(64:Int)<(x.sheets.length:Int):=ae;have q6':decide ((64:Int)<(x.sheets.length:Int))=true:=by simpa using q6
       clear h6;go_wp2;go_ret;exact⟨gW HF.o.symm,dD.o⟩
     ·have e5:(decide (0≤x.week)&&decide (x.week≤10000))=false:=by rw[←XH];simpa using h5
      rw[e5];have HF:Hid (dA x=70):=U (by rw[HW.o,aD (λh=>h5 h.2.2.2.1)]);clear h5 e5;go_wp2;go_ret;exact⟨gW HF.o.symm,dD.o⟩
    ·have e4:(decide (0≤x.term)&&decide (x.term≤x.ticks))=false:=by rw[←XH];simpa using h4
     rw[e4];have HF:Hid (dA x=70):=U (by rw[HW.o,aD (λh=>h4 h.2.2.1)]);clear h4 e4;go_wp2;go_ret;exact⟨gW HF.o.symm,eD.o⟩
   ·have e3:(decide (1≤x.ticks)&&decide (x.ticks≤400))=false:=by rw[←XH];simpa using h3
    rw[e3];have HF:Hid (dA x=70):=U (by rw[HW.o,aD (λh=>h3 h.2.1)]);clear h3 e3;go_wp2;go_ret;exact⟨gW HF.o.symm,bX.o⟩
  ·rw[aD h2];have HF:Hid (dA x=70):=U (by rw[HW.o,aD (λh=>h2 h.1)]);clear h2;go_wp2;go_ret;exact⟨gW HF.o.symm,HB3.o⟩
 ·have q1:(s1 != 0)=true:=qO;have HF:Hid (dA x=s1):=U (by unfold dA;rw[hs.o,if_pos h1]);clear h1;go_wp2;go_ret;exact⟨gW HF.o.symm,HB1.o⟩
end
end Go.Proofs.YtfmckbjeofiegaaGreat
