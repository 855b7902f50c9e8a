/- Part 17 of a proof. -/
import Derived.Test.YtfmckbjeofiegaaGreatA12
import Derived.Test.YtfmckbjeofiegaaGreatA14
import Derived.Test.YtfmckbjeofiegaaGreatA15
set_option maxRecDepth 100000
set_option maxHeartbeats 16000000
set_option linter.all false
open Go Go.RowKit Go.Proofs.Tryz
namespace Go.Proofs.YtfmckbjeofiegaaGreat
variable {d:jD}{f:aQ}{bl:List Int}{l:List Sp}{cs:List Value}{B c j k:Nat}{p:bU}{v:Value}{x:aJ}{w':World}
structure GU(x:aJ)(f:aQ):Prop where
 band:0≤f.sheet.band∧f.sheet.band≤8
 zero:-200≤f.sheet.zlo∧f.sheet.zlo≤f.sheet.zhi∧f.sheet.zhi≤200
 rate:0≤f.sheet.rate∧f.sheet.rate≤12000
 ticks:1≤x.ticks∧x.ticks≤400
 gaps:(∀g∈df f,0≤g.1∧g.1≤g.2∧g.2≤1000000)∧(df f).length≤1000
 ink:(jP f).length=(df f).length+1∧∀l∈jP f,bF l∧l.length≤8∧∀s∈l,0≤s.1∧s.2≤12000
 reads:x.reads.length≤64∧∀r∈x.reads,0≤r.2.2.2.1∧r.2.2.2.1≤r.2.2.2.2∧r.2.2.2.2≤12000
 gap1:∀g∈df f,1≤g.2
structure LU(x:aJ)(f:aQ)(st:Int)(C:Nat)(cs:List Value)(w:World):Prop where
 bx:Bx C cs w
 pen:cs[14]?=some (.int .i64 f.sheet.band)∧cs[15]?=some (.int .i64 f.sheet.zlo)∧cs[16]?=some (.int .i64 f.sheet.zhi)∧cs[17]?=some (.int .i64 f.sheet.rate)
 marks:∃v,cs[18]?=some v∧aC Shape.trip w v f.marks
 reads:∃v,cs[19]?=some v∧aC Shape.rdg w v (xU x st)
 ticks:cs[20]?=some (.int .i64 x.ticks)
 ink:∃v,cs[21]?=some v∧aC Shape.span.list w v (jP f)
 gaps:∃v,cs[22]?=some v∧aC Shape.span w v (df f)
 zeroes:∃v,cs[25]?=some v∧aC Shape.int w v (iw f)
theorem LU.below{st:Int}{C:Nat}{w:World}(h:LU x f st C cs w)(hb:BL w w'):LU x f st C cs w':=by
 obtain⟨b,p,⟨v1,m1,m2⟩,⟨v2,r1,r2⟩,t,⟨v3,i1,i2⟩,⟨v4,g1,g2⟩,⟨v5,z1,z2⟩⟩:=h;exact⟨b.next hb,p,⟨v1,m1,m2.below hb⟩,⟨v2,r1,r2.below hb⟩,t,⟨v3,i1,i2.below hb⟩,⟨v4,g1,g2.below hb⟩,⟨v5,z1,z2.below hb⟩⟩
structure mI(x:aJ)(f:aQ)(st:Int)(C:Nat)(cs:List Value)(w:World):Prop where
 m:LU x f st C cs w
 list:∃v,cs[23]?=some v∧aC Shape.trip w v (aL x f)
 index:∃M,cs[24]?=some (.map (some M))∧jG w M (aL x f)
theorem mI.below{st:Int}{C:Nat}{w:World}(h:mI x f st C cs w)(hb:BL w w'):mI x f st C cs w':=by
 obtain⟨a,⟨v,l1,l2⟩,⟨M,i1,i2⟩⟩:=h;exact⟨a.below hb,⟨v,l1,l2.below hb⟩,⟨M,i1,i2.below hb⟩⟩
def rdStep(tick by':Int)(s:Sp)(r:je):Sp:=if r.2.2.1=tick then(max s.1 (r.2.2.2.1-by'),min s.2 (r.2.2.2.2-by'))else s
def vX(l:List je)(tick by':Int)(k:Nat):Sp:=(l.take k).foldl (rdStep tick by') (max 0 (-by'),min 12000 (12000-by'))
theorem alV{l:List je}{tick by':Int}(hk:k<l.length):vX l tick by' (k+1)=rdStep tick by' (vX l tick by' k) l[k]:=by
 unfold vX;rw[jF hk,Mv];rfl
theorem alU(x:aJ)(st tick by':Int):vX (xU x st) tick by' (xU x st).length=rQ x.reads st tick by':=by
 unfold vX rQ xU;rw[jc];generalize ((max 0 (-by'),min 12000 (12000-by')):Sp)=s
 induction x.reads generalizing s with
 |nil=>rfl
 |cons r l ih=>
  by_cases h:r.1=st
  ·rw[List.filter_cons_of_pos wu,xO,xO,ih]
   congr 1
   unfold rdStep;by_cases h2:r.2.2.1=tick
   ·rw[aG h2,aG ⟨h,h2⟩]
   ·rw[aD h2,aD (λk=>h2 k.2)]
  ·rw[List.filter_cons_of_neg wu,xO,ih]
   congr 1
   rw[aD (λk=>h k.1)]
theorem Wo{l:List je}(h:∀r∈l,0≤r.2.2.2.1∧r.2.2.2.1≤r.2.2.2.2∧r.2.2.2.2≤12000){tick by':Int}(hb:-1000≤by'∧by'≤1000):∀ {k:Nat},k≤l.length→(0≤(vX l tick by' k).1∧(vX l tick by' k).1≤13000)∧(-1000≤(vX l tick by' k).2∧(vX l tick by' k).2≤12000)
 |0,_=>by unfold vX;simp;omega
 |k+1,hk=>by
  have ih:=Wo h hb (tick:=tick) (show k≤l.length from ae);have hr:=h _ (eu (show k<l.length from ae));rw[alV ae];unfold rdStep;split
  ·exact ic
  ·exact ih
theorem awc{a b:List Sp}(ha:bF a)(hb:bF b):inter a b=inter b a:=I9 (Be ha hb) (Be hb ha) λn=>by rw[Bd,Bd,And.comm]
section
attribute [local go_sem] Qv
attribute [local go_sem] Oper.semAt_some
theorem avH:(prog.info? 209).map (λi=>(i.zero,i.size,i.bytes))=some (some (.agg #[.int .i64 0,.int .i64 0,.int .i64 0]),3,24):=aF
theorem aAM{w:World}{n:Nat}{a:Option Addr}{xs:List (Int×Sp)}(h:aC Shape.trip w v xs)(hB:Bx B [.slice a n c] w):Shape.trip.list.reads (λq=>q≠B) w [v] xs:=by
 obtain⟨a',c',e,h1,h2,h3⟩:=h;refine⟨a',c',e,h1,h2,λh0=>?_⟩;obtain⟨b,o,ea,hb,_,hr⟩:=h3 h0
 have hne:b≠B:=by
  rintro rfl;obtain⟨cs,g1,g2⟩:=hr 0 h0;have e1:=jC.1 g1;have g:=g2 0 aW;rw[hB.cell,e1]at g
  cases o with
  |zero=>simp at g
  |succ o=>simp at g
 refine⟨b,o,ea,hb,hne,λk hk=>?_⟩;obtain⟨cs,g1,g2⟩:=hr k hk;exact⟨cs,jC.2 (jC.1 g1),g2⟩
theorem arc(x:aJ)(f:aQ)(st:Int)(C:Nat)(cs:List Value)(c a o:Int)(w:World)(hF:mI x f st C cs w)(hP:GU x f)(hc:-1≤c∧c≤(df f).length)(ha:0≤a∧a≤1000000):
  Calls prog 173 #[.pointer (some ⟨C,0,none⟩),.agg #[c,a,o]] w λe w'=>∃v,e=.returned v∧qF 209 w.heap.size w' v (CR (df f) f.sheet.band (oP f o) (eY (df f) x.ticks) (c,a))∧BL w w':=by
 have HF:=U hF;have HP:=U hP;clear hF hP;obtain⟨vg,g1,g2⟩:=HF.o.m.gaps;have HG:Hid (Shape.span.list.reads (λb=>b<w.heap.size) w [vg] (df f)):=U (Shape.span.list.mono g2 λb hb _=>hb);obtain⟨M,hM1,hM2⟩:=HF.o.index;have OZ:=U hM2;have oV:=(HF.o.m.bx.cell 14).trans HF.o.m.pen.1;have Dj:=(HF.o.m.bx.cell 15).trans HF.o.m.pen.2.1;have q16:=(HF.o.m.bx.cell 16).trans HF.o.m.pen.2.2.1;have Dk:=(HF.o.m.bx.cell 17).trans HF.o.m.pen.2.2.2;have q24:=(HF.o.m.bx.cell 24).trans hM1;have lC:=HF.o.m.bx.lt;have hMl:=hM2.lt;have Rq:C<w.heap.size+1+1:=ae;have Tv:=U (axh HP.o.band o);have LY:=U (ahY f.sheet.band (oP f o) HP.o.gap1 HP.o.ticks.1 hc ha.1);have HWP:Hid (∀p,p∈nk (df f) x.ticks c a→p∈eY (df f) x.ticks):=U (λp hp=>aBt HP.o.gap1 HP.o.ticks.1 hc ha.1 hp);have Yy:=U (λW=>apY f.sheet.band f.sheet.zlo f.sheet.zhi f.sheet.rate o W);have auj:=HP.o.band;have HG2:=U HP.o.gaps.2;rw[LY.o];obtain⟨mv,hmv⟩:∃m,Hid (oP f o=m):=⟨_,U rfl⟩;have aj5:(KX f.sheet.band f.sheet.zlo f.sheet.zhi f.sheet.rate o).1=mv:=hmv.o;rw[aj5]at Yy;rw[hmv.o]at Tv ⊢;clear g2 hM1 hM2 aj5 LY;obtain⟨i0,hi,hz0,hz1,hz2⟩:=dY avH;refine(xW (n:=3)).1 ?_;refine zb func173 rfl trivial ?_ rfl
 simp only[ntmps173,jb,dS,fU,Nat.reduceAdd,Nat.reduceSub,kv,kw,kC,kz,fE,gB];have hfn:∀k,Fence.wide.fn k:=λ_=>trivial;have hdp:¬(Fence.wide.depth.isSome=true):=kL;gi_wp2_with fail;have bg:=U ((Bx.new (W:=w) (t:=88) (vs:=[.pointer (some ⟨C,0,none⟩)]) rfl).alloc (.cells #[c,a,o] 195));have bP:=U (Bx.new (W:=w.alloc (.cells #[.pointer (some ⟨C,0,none⟩)] 88)) (B:=w.heap.size+1) (t:=195) (vs:=[.int .i64 c,.int .i64 a,.int .i64 o]) aj);have hb0:BL w ((w.alloc (.cells #[.pointer (some ⟨C,0,none⟩)] 88)).alloc (.cells #[c,a,o] 195)):=Bl.alloc (Bl.alloc (aB _ _) _) _;generalize hw0:(w.alloc (.cells #[.pointer (some ⟨C,0,none⟩)] 88)).alloc (.cells #[c,a,o] 195)=w0 at *;have hz0':w0.heap.size=w.heap.size+2:=by rw[←hw0];simp
 clear hw0;have y14:=(hb0.cell (p:=⟨C,14,none⟩) lC).trans oV;have y15:=(hb0.cell (p:=⟨C,15,none⟩) lC).trans Dj;have y16:=(hb0.cell (p:=⟨C,16,none⟩) lC).trans q16;have y17:=(hb0.cell (p:=⟨C,17,none⟩) lC).trans Dk;have ER:=bg.o.cell 0;have p30:=bP.o.cell 0;have p31:=bP.o.cell 1;have p32:=bP.o.cell 2;have l2:=bg.o.lt;have l3:=bP.o.lt;simp only[aK,bB]at ER p30 p31 p32;have lC0:C<w0.heap.size:=ae;obtain⟨Qc,Hm⟩:∃R:Act→World→Prop,Hid (R=λa' w'=>∃(B5:Nat) (vm:Value),(Hid (Bx B5 [vm] w')∧Hid (aC Shape.trip w' vm mv)∧Hid (BL w0 w'))∧∃us:Nat→Value,a'=Act.mk [.pointer (some ⟨C,0,none⟩),.agg #[c,a,o],.pointer (some ⟨w.heap.size,0,none⟩),.pointer (some ⟨w.heap.size+1,0,none⟩),.slice none 0 0,.pointer (some ⟨B5,0,none⟩),us 6,undef,undef,undef,undef,us 11,us 12,us 13,us 14,us 15,us 16,us 17,us 18,us 19,us 20,us 21,undef,undef,undef,undef,undef,undef,undef,undef,undef,undef,undef,undef,undef,undef,undef,undef,undef,undef,undef,undef,undef,undef,undef,undef,undef,undef,undef,undef,undef,undef,undef,undef,undef,undef].toArray []):=⟨_,U rfl⟩;refine ad1 Qc ?_ ?_
 ·refine⟨?_⟩;refine Ou ?_;refine LK [12] [7,11,12] 1 [5] (.two [0,1,2,3,4,6] 2 7 (.pur [8,9,10] (.one 0 [] 11 (.one 1 [] 12 (.fin [13])))) 2 11 (.one 0 [] 7 (.pur [8,9,10] (.one 1 [] 12 (.fin [13]))))) [_] (.two [_,_,_,_,_,_] 2 7 _ (.pur [_,_,_] (.one 0 [] 11 _ (.one 1 [] 12 _ (.fin [_])))) 2 11 _ (.one 0 [] 7 _ (.pur [_,_,_] (.one 1 [] 12 _ (.fin [_]))))) ?_
  (repeat(go_big_quiet_step (fail)));refine aH (Sy ?_)
  (repeat(go_big_quiet_step (fail)));refine aH ?_
  refine⟨?_,?_⟩
  ·intro w2 hb2;go_wp2_with fail;refine(Yy.o w2).mono ?_;rintro e w3 ⟨vm,rfl,hT,hb3⟩;have HT:=U (Xc hT);obtain⟨am,cm,rfl,hm1,hm2⟩:=(Xc hT).shape;clear hT;go_wp2;refine dZ (Bl.call hb2 hb3) (LG ?_)
   (repeat(go_big_quiet_step (fail)));refine aH ?_
   refine uV (aH ?_);intro w4 hb4;go_wp2;refine dZ (Bl.alloc hb4 _) (wG ?_);go_wp2;refine bS _ rfl (Xa ?_)
   (repeat(go_big_quiet_step (fail)));refine aH ?_
   intro nq;simp only[iI,I8];have hbf:=Bl.call (Bl.call hb2 hb3) hb4;rw[Hm.o];exact⟨w4.heap.size,_,⟨U ((Bx.new rfl).drewN nq),U (HT.o.below (Bl.drewN (Bl.alloc hb4 _) nq)),U (Bl.drewN (Bl.alloc hbf _) nq)⟩,Dc _ _ _ rfl⟩
  ·intro w2 hb2;go_wp2;refine dZ (Bl.alloc hb2 _) (uV (aH ?_));intro w3 hb3;have XA:=(Bx.new (W:=w2) (t:=205) (vs:=[.slice none 0 0]) rfl).next hb3;go_wp2_with fail;refine(Yy.o w3).mono ?_;rintro e w4 ⟨vm,rfl,hT,hb4⟩;have HT:=U (Xc hT);obtain⟨am,cm,rfl,hm1,hm2⟩:=(Xc hT).shape;clear hT;have Qm:=XA.next hb4;have a0:=Qm.cell 0;have af:=Qm.free 0;have al:=Qm.lt;simp only[aK]at a0;go_wp2;refine dZ (Bl.call hb3 hb4) (LG ?_)
   (repeat(go_big_quiet_step (fail)));refine aH ?_
   refine wG ?_;go_wp2;refine bS _ rfl (Xa ?_)
   (repeat(go_big_quiet_step (fail)));refine aH ?_
   intro nq;simp only[iI,I8];have hbf:=Bl.call (Bl.call (Bl.alloc hb2 (.cells #[.slice none 0 0] 205)) hb3) hb4;have hge:=hb2.size;rw[Hm.o];exact⟨w2.heap.size,_,⟨U ((Qm.set 0 _ aj).drewN nq),U (aC.below (Shape.list_far (Shape.trip.list.keep (aAM HT.o Qm) (Same.setCell _ ⟨w2.heap.size,0,none⟩ _))) (Bl.drewN (aB _ _) nq)),U (Bl.drewN (Bl.setCell hbf (by simpa using hge) _) nq)⟩,Dc _ _ _ rfl⟩
 refine⟨?_⟩;intro _ w1 hj;rw[Hm.o]at hj;obtain⟨B5,vm,⟨aU,HMT,HB⟩,us1,ha⟩:=hj;subst ha;clear Hm Qc;obtain⟨am,cm,rfl,hm1,hm2⟩:=HMT.o.shape;unfold maxLen at hm2;have FK:=U (bg.o.next HB.o);have Co:=U (bP.o.next HB.o);clear ER p30 p31 p32 l2 l3;have ER:=FK.o.cell 0;have p30:=Co.o.cell 0;have p31:=Co.o.cell 1;have p32:=Co.o.cell 2;have l2:=FK.o.lt;have l3:=Co.o.lt;simp only[aK,bB]at ER p30 p31 p32;gi_wp2_with fail;have hbw:=Bl.call hb0 HB.o;have hsz1:=HB.o.size;have bD:=U (Bx.new (W:=w1) (t:=205) (vs:=[.slice none 0 0]) rfl);have eP:=Bl.alloc hbw (.cells #[.slice none 0 0] 205);refine(jH jJ (aso C w.heap.size cs vg (df f) x.ticks c a o _ (HF.o.m.bx.next eP) (Shape.below HG.o eP))).mono ?_;rintro e wy ⟨rfl,hWF,hb2⟩;have xN:=U hWF;clear hWF;have apL:=U (bD.o.next hb2);have HB2:=U (Bl.call (Bl.alloc (aB _ _) (.cells #[.slice none 0 0] 205)) hb2);have hs2:w1.heap.size+1+2≤wy.heap.size:=by have:=xN.o.bs.lt;simp at this;omega
 simp only[fH]at xN;have qC:=U (λn=>aBu (w1.heap.size+1) (w1.heap.size+1+1) C w.heap.size n cs vg (df f) x.ticks c a o wy xN.o g1 HF.o.m.ticks lC ae hc ha HG2.o);gi_wp2_with fail;have JY:=U (And.intro FK.o (And.intro Co.o aU.o));clear ER p30 p31 p32 l2 l3 hb2 xN bD eP bg bP FK Co aU;refine(λ(h:∃A:Nat→jr→Act,_)=>h.elim λ_ h=>h) ?_;apply Exists.intro
 refine ad3 (gf:=281) (lb:=#[.pointer (some ⟨w1.heap.size+1,0,none⟩),.pointer (some ⟨w1.heap.size+1+1,0,none⟩)]) rfl (fo func281 aF rfl) (qC.o _) (λq hq=>ae) (λ_=>rfl)
  (λown pre W=>LQ 209 3 CV w1 w1.heap.size wy.heap.size own (pre.flatMap (tu (df f) x.ticks f.sheet.band mv)) W) ?hI ?h0
  (λown pre p a1 W=>∃(bt:Nat) (v:Value),(Bx bt [p.1,p.2,.int .i64 0] W∧wy.heap.size+2≤bt∧¬own bt)∧p∈eY (df f) x.ticks∧(pre.length<2∧Bx w1.heap.size [v] W∧qF 209 (wy.heap.size+2) W v (pre.flatMap (tu (df f) x.ticks f.sheet.band mv))∧(∀k,v.ownBlock=some k→¬own k∧k≠bt)∧BL w1 W)∧a1=?w bt p) ?hAx ?assign ?body ?done
 case hI=>
  intro own own' s A B hi ho hs ht hw;exact agY hi ae ae ho hs ht hw
 case h0=>exact⟨_,apL.o,Di rfl,(λk hk=>by cases hk),HB2.o⟩
 case hAx=>
  rintro own pre p a1 A B ⟨bt,v,⟨h1,h2,h3⟩,h4,⟨h5,h6,h7,h8,h9⟩,h10⟩ ho ht hlt hsz;exact⟨bt,v,⟨h1.turns ht (λe=>ae),h2,h3⟩,h4,⟨h5,h6.turns ht (λe=>ae),fO h7 ht (λk hk e=>by have:=(h7.lt k hk).1;omega),h8,aA.below h9 ht ae (λk e=>ae)⟩,h10⟩
 case assign=>
  rintro ll own pre p W hi' ho hs hlt hp;have HI:=U hi';clear hi';have Ph:=U (HWP.o p hp);clear hp;unfold Ir;gi_wp2;have hbl:BL W (W.alloc (.cells #[p.1,p.2,.int .i64 0] 195)):=Bl.alloc (aB _ _) _;have hX1:=Bx.new (W:=W) (t:=195) (vs:=[.int .i64 p.1,.int .i64 p.2,.int .i64 0]) rfl
  have Gn:fG wy.heap.size (λk=>k<w.heap.size∨k=w1.heap.size+1∨k=w1.heap.size+1+1) own W (W.alloc (.cells #[p.1,p.2,.int .i64 0] 195)):=fG.of_below hbl λq hq=>by
   rcases hq with h|h|h|h
   ·omega
   ·exact(ho q h).2
   ·omega
   ·omega
  obtain⟨v,hv,hr,hd,hb⟩:=HI.o;have hI2:=And.intro (hv.next hbl) (And.intro (il hr hbl) (And.intro (λk hk=>And.intro (hd k hk) (by have:=(hr.lt k hk).2;omega:k≠W.heap.size)) (aA.below hb (aA.of_below (own:=λ_=>False) hbl) ae (λk h=>h.elim))));clear hv hr hd hb HI;have hno:¬own W.heap.size:=λh=>VD;generalize W.alloc (.cells #[p.1,p.2,.int .i64 0] 195)=W2 at *;generalize W.heap.size=bt at *;exact⟨Gn,bt,v,⟨hX1,hs,hno⟩,Ph.o,⟨hlt,hI2⟩,rfl⟩
 case body=>
  rintro ll own pre p a1 W ⟨bt,v,⟨h1,h2,h3⟩,h4,⟨h5,hv,hO,hdj,hbw1⟩,rfl⟩ ho hs hlt;have Ph:=U h4;have HOW:=U ho;have Tm:=U hdj;have cB:=U hbw1;clear h4 ho hdj hbw1;have aU:=U (JY.o.2.2.next cB.o);have Da:=cB.o.size;have hv5:=aU.o.cell 0;have hl5:=aU.o.lt;simp only[aK]at hv5;obtain⟨Y,hY⟩:=nm (tu (df f) x.ticks f.sheet.band mv p);have PL:Hid (Y.length=mv.length):=U (by rw[←hY.o,tu,fC])
  have bE:Hid ((pre.flatMap (tu (df f) x.ticks f.sheet.band mv)).length≤34):=U (by
   have key:∀l:List jr,(l.flatMap (tu (df f) x.ticks f.sheet.band mv)).length≤17*l.length:=by
    intro l
    induction l with
    |nil=>simp
    |cons p l ih=>
     rw[jN,dn,dS];have:(tu (df f) x.ticks f.sheet.band mv p).length≤17:=by unfold tu;rw[List.length_map];exact Tv.o.1
     omega
   have:=key pre
   omega)
  have Fw:Hid ((pre++[p]).flatMap (tu (df f) x.ticks f.sheet.band mv)=pre.flatMap (tu (df f) x.ticks f.sheet.band mv)++Y):=U (by rw[mO,←hY.o];simp);generalize pre.flatMap (tu (df f) x.ticks f.sheet.band mv)=XX at *;have Hl:=U (And.intro h1 (And.intro hv hO));clear h1 hv hO;gi_wp2
  gi_loopw [28] (λLh wr=>∃(m:Nat) (off:Int) (v':Value),m≤mv.length∧Lh=.int .i64 m∧Hid (Bx bt [p.1,p.2,off] wr)∧Hid (Bx w1.heap.size [v'] wr)∧Hid (qF 209 (wy.heap.size+2) wr v' (XX++Y.take m))∧Hid (aA (λk=>k=w1.heap.size∨k=bt∨v.ownBlock=some k) W wr)∧Hid (nI W v v')) (λLh _=>mv.length-(intOf Lh).toNat)
  case atStart=>exact⟨0,0,v,tX _,rfl,U Hl.o.1,U Hl.o.2.1,U (by simpa using Hl.o.2.2),U (aA.refl _ _),U (.inl rfl)⟩
  case round=>
   obtain⟨m,off,v',hm,rfl,HT,HX,HO,Cg,FD⟩:=hrel;have xE:=U (aA.below cB.o Cg.o Da (λk h=>ayp));by_cases hlt2:m<mv.length
   ·have HT0:=HT.o.lt;obtain⟨qm,om,em,d1,d2,d3⟩:=(HMT.o.below xE.o).trip_at hlt2;subst em;have Fs:=Tv.o.2 _ (eu hlt2);have hYm:m<Y.length:=by rw[PL.o];exact hlt2
    have HYE:Hid (Y[m]=((((eY (df f) x.ticks).idxOf p:Nat):Int)*(2*f.sheet.band+1)+mv[m].1,mv[m].2)):=U (by simp only[←hY.o,tu,lK]);have kR:Hid (Y.take (m+1)=Y.take m++[((((eY (df f) x.ticks).idxOf p:Nat):Int)*(2*f.sheet.band+1)+mv[m].1,mv[m].2)]):=U (by rw[jF hYm,HYE.o]);clear HYE;obtain⟨k,hk,hk1,hk2⟩:=aAf auj.1 Ph.o Fs;generalize mv[m]=em at *;obtain⟨mt,lo,hi'⟩:=em;simp only at d1 d2 d3 Fs hk1 hk2;obtain⟨tv,htv⟩:∃t,Hid (mt-f.sheet.band=t):=⟨_,U rfl⟩;have v1:IntKind.i64.wrap (mt-f.sheet.band)=tv:=by rw[dE _ ae];exact htv.o
    rw[htv.o]at hk1;have HK1:=U hk1;have HK2:=U hk2;clear hk1 hk2;have Mq:=JY.o.1.next xE.o;have Za:=JY.o.2.2.next xE.o;have ER:=Mq.cell 0;have p50:=Za.cell 0;have l2:=Mq.lt;have l5:=Za.lt;simp only[aK]at ER p50;have y14:=((Bl.call hbw xE.o).cell (p:=⟨C,14,none⟩) lC).trans oV;have lCr:C<wr.heap.size:=by have:=(Bl.call hbw xE.o).size;omega
    have i1:(0:Int)≤(m:Int):=ae;have i2:(m:Int)<mv.length:=ae;have tl:=HT.o.lt;have tf:=HT.o.free 2;have t2:=HT.o.cell 2;simp only[aK,bB]at t2;have nb:¬wr.heap.size=bt:=ae;gi_wp2;refine rU [10] [10] 0 [] [(0,[0,1,2,3,4,5,6,7,8,9],10)] [] [] [(0,[_,_,_,_,_,_,_,_,_,_],10,_)] [] ?_;refine aH (iP ?_)
    (repeat(go_big_quiet_step (fail)));refine aH ?_
    intro n8;go_wp2;refine bS _ rfl (jl ?_);refine uO ?_;have hbt:=Hl.o.1.lt
    have hvb:∀k,v'.ownBlock=some k→k≠bt:=λk hk=>by
     rcases FD.o with e|⟨q,e,hq⟩
     ·exact(Tm.o k (e ▸ hk)).2
     ·rw[e]at hk;cases hk;omega
    have pU:aA (λk=>k=bt) wr (((wr.alloc (.cells #[mt,lo,hi'] 209)).drewN n8).setCell ⟨bt,2,none⟩ (.int .i64 tv)):=((aA.alloc _ _ _).trans (aA.drewN _ _ n8)).trans (aA.setCell _ _ _ _ rfl);have fJ:=U (((HT.o.alloc (.cells #[mt,lo,hi'] 209)).drewN n8).set 2 (.int .i64 tv) aj);have GV:=U (((Bx.new (W:=wr) (t:=209) (vs:=[.int .i64 mt,.int .i64 lo,.int .i64 hi']) rfl).drewN n8).far (p:=⟨bt,2,none⟩) (by show ¬bt=_;omega) (.int .i64 tv));have fF:=HX.o.turns pU ae;have mK:=fO HO.o pU hvb;have YX:=U (Cg.o.trans (pU.mono λk e=>.inr (.inl e)));simp only[Cw,Ed]at fJ;clear HT HX HO Cg xE pU ER p50 l2 l5 y14 lCr tl tf t2 nb HT0 Mq Za d1 d2 d3;generalize ((wr.alloc (.cells #[mt,lo,hi'] 209)).drewN n8).setCell ⟨bt,2,none⟩ (.int .i64 tv)=W9 at *;obtain⟨b10,lN⟩:∃b,Hid (b=wr.heap.size):=⟨_,U rfl⟩;rw[←lN.o]at GV ⊢;have xE:=U (aA.below cB.o YX.o Da (λk h=>ayp));have HX:=U fF;have HO:=U mK;clear fF mK;obtain⟨a9,c9,rfl⟩:=bv HO.o;have Mq:=JY.o.1.next xE.o;have ER:=Mq.cell 0;have l2:=Mq.lt;have y24:=((Bl.call hbw xE.o).cell (p:=⟨C,24,none⟩) lC).trans q24;have lCr:C<W9.heap.size:=by have:=(Bl.call hbw xE.o).size;omega
    have x0:=HX.o.cell 0;have lx:=HX.o.lt;have t0:=fJ.o.cell 0;have t1:=fJ.o.cell 1;have t2:=fJ.o.cell 2;have lt9:=fJ.o.lt;have m1:=GV.o.cell 1;have m2:=GV.o.cell 2;have l10:=GV.o.lt;simp only[aK,bB]at ER x0 t0 t1 t2 m1 m2;have aoD:=U (OZ.o.below (Bl.call hbw xE.o));have aDh:(XX++List.take m Y).length≤60:=by have:=bE.o;have:=Tv.o.1;rw[dn,oF];omega
    generalize hZ:XX++List.take m Y=Z at *;gi_wp2;refine rU [11,12] [10,11,12] 1 [] [(0,[0,1,2,3,4,5,6,7,8,9],10),(0,[],11),(0,[],12)] [] [] [(0,[_,_,_,_,_,_,_,_,_,_],10,_),(0,[],11,_),(0,[],12,_)] [] ?_
    (repeat(go_big_quiet_step (first|fail)));refine aH (ku ?_)
    (repeat(first|(go_big_quiet_want;refine ayd (M:=M) (k:=k) (y:=(p.1,p.2,tv)) eU ?_ ?_ aoD.o hk HK1.o ?_;(focus exact rfl);(focus exact rfl);go_big_quiet_op;go_big_quiet_on)|(go_big_quiet_want;(first|apply bH eH bK rfl|apply bH eU bK rfl|apply bH eH gH rfl|apply bH eU gH rfl|apply bH eH fZ rfl|apply bH eU fZ rfl|apply bH eH mV rfl|apply bH eU mV rfl);(focus exact AU);(focus exact rfl);go_big_quiet_op;go_big_quiet_on)|go_big_quiet_step (first|fail)));refine aH ?_
    intro w2 hb2;have bL:=U (gV HO.o hb2);have hsz2:=hb2.size;go_wp2;refine dZ (Bl.alloc hb2 _) (rW ?_);go_wp2_with (at_builtin;go_loud (refine iE (bL.o.alloc _) ⟨w2.heap.size,0,none⟩ 1 1 [k,lo,hi'] hi hz0 hz1 hz2 ?_);intro v5 w4 hown' hgrow bY;obtain⟨a9,c9,rfl⟩:=bv hown')
    refine bS _ rfl (rW ?_);have HF:=U (Ep (c:=0) HX.o hb2 HO.o hown' hgrow bY ae aj);obtain⟨zF,zR⟩:=HF.o.1;go_wp2;refine bS _ rfl (jl ?_);first|refine uO ?_|simp only[iI]
    obtain⟨hx5,jX,t5,s5⟩:=HF.o.2 0;have aU:=U hx5;have iA:=U jX;have T5:=U t5;have S5:=U s5;clear hx5 jX t5 s5 HF zF zR hgrow bY bL hown' hb2 hsz2;have aDo:=Hl.o.1.lt;have Hq:=U (fJ.o.turns T5.o (λh=>by rcases h with h|h;omega;exact hvb bt h.symm rfl))
    have apA:=U (YX.o.trans2 T5.o (λq h=>by
     rcases h with h|h
     ·exact .inl (.inl h)
     ·rcases FD.o with e|⟨q',e,hq⟩
      ·exact .inl (.inr (.inr (e ▸ h.symm)))
      ·rw[e]at h;cases h;exact .inr hq))
    have apr:=U (FD.o.trans S5.o YX.o.size);have TA:=U (xk (x:=((((eY (df f) x.ticks).idxOf p:Nat):Int)*(2*f.sheet.band+1)+mt,lo,hi')) iA.o rfl (by rw[←HK2.o];rfl));simp only[Cw]at aU;gi_wp2;go_roundw
    case rel=>exact⟨m+1,tv,_,ae,aY,Hq,aU,by rw[kR.o,←yS,hZ];exact TA,apA,apr⟩
    case measure=>exact aFF
   ·obtain rfl:m=mv.length:=ae;gi_wp2_with fail;have D7:Hid (Y.take mv.length=Y):=U (FY (by have:=PL.o;omega));have QK:=HO.o;rw[D7.o,←Fw.o]at QK;exact agZ (E:=λk=>k=bt) (λk hk=>(Tm.o k hk).1) Hl.o.2.2 cB.o (aV _) ae HOW.o hs (λk hk=>ae) (λk e=>by subst e;exact⟨h2,h3⟩) HX.o QK Cg.o FD.o
 case done=>
  rintro own ls W rfl ⟨v,hv,hr,hd,hb⟩ ho hs hK;have hcv:=hv.cell 0;have hlv:=hv.lt;simp only[aK]at hcv;obtain⟨ao,co,rfl⟩:=bv hr;have HR:=U hr;have jK:=U hb;clear hr hb hd ho;obtain⟨RR,hRR⟩:∃r,Hid (List.flatMap (tu (df f) x.ticks f.sheet.band mv) (nk (df f) x.ticks c a)=r):=⟨_,U rfl⟩;rw[hRR.o]at HR hcv;have hwn:=hbw.size;gi_wp2_with fail;refine⟨aj,.inl ⟨_,_,rfl,sO hK,?_⟩⟩;have yK:qF 209 w.heap.size (W.putObj wy.heap.size (.deferred none)) (.slice ao RR.length co) RR:=kJ (alD HR.o _ hK rfl) ae;refine⟨_,Lc rfl _ _ _,_,rfl,?_,(Bl.call hbw jK.o).trans (AO (w:=w) (aV _) W _ _ _ ae hK rfl rfl)⟩;rw[hRR.o];exact yK
end
section
attribute [local go_sem] Qv
theorem amE:∀ {l:List Sp} {a:Int},bF l→(∀s∈l,a+2≤s.1∧s.2≤100000)→Dy a l=true
 |[],_,_,_=>rfl
 |s::l,a,h,hb=>by
  have h1:=hb s aj;have h2:=h.1 s aj;have hp:=FX.1 h.2;unfold Dy;rw[En ae,DL];exact amE ⟨λx hx=>h.1 x (Cv _ hx),hp.2⟩ λx hx=>⟨by have:=hp.1 x hx;omega,(hb x (Cv _ hx)).2⟩
theorem amQ(h:bF l)(hl:l.length≤64)(hb:∀s∈l,-100000≤s.1∧s.2≤100000):xy l=true:=by
 unfold xy EH;rw[En hl,DL];exact amE h λs hs=>⟨by have:=(hb s hs).1;omega,(hb s hs).2⟩
theorem aAr(va vb:Value)(A B:List Sp)(w:World)(hA:aC Shape.span w va A)(hB:aC Shape.span w vb B)(sA:xy A=true)(sB:xy B=true)(nA:bF A)(nB:bF B)(bA:∀s∈A,-1000000≤s.1∧s.2≤1000000)(hl:A.length+B.length≤1000000000000):
  Calls prog 236 #[va,vb] w λe w'=>∃v,e=.returned (.tuple #[v,.int .i64 0])∧bG w.heap.size w' v (inter A B)∧BL w w':=by
 have H1:=U (λW (hb:BL w W)=>Rk va A true W (hA.below hb) (U sA));have H2:=U (λW (hb:BL w W)=>Rk vb B true W (hB.below hb) (U sB));have H3:=U (λW (hb:BL w W)=>adH va vb A B W (hA.below hb) (hB.below hb) nA nB bA hl);obtain⟨a,c,rfl,ha1,ha2⟩:=hA.shape;obtain⟨b,d,rfl,hb1,hb2⟩:=hB.shape;clear hA hB sA sB nA nB bA hl;go_in;go_wp2_with fail;refine(H1.o _ (aB _ _)).mono ?_;rintro e w1 ⟨rfl,hc1⟩;go_wp2_with fail;refine(H2.o _ hc1).mono ?_;rintro e w2 ⟨rfl,hc2⟩;have hc3:=Bl.call hc1 hc2;go_wp2_with fail;refine(H3.o _ hc3).mono ?_;rintro e w3 ⟨v,rfl,hv,hc4⟩;go_wp2;refine kE (Ws rfl _ _ _) rfl ⟨v,rfl,kJ hv hc3.size,Bl.call hc3 hc4⟩
theorem aqu(B5 B6:Nat)(c a o tick:Int)(w:World)(h5:Bx B5 [c,a,o] w)(h6:Bx B6 [tick] w):
  Ef 235 #[.pointer (some ⟨B5,0,none⟩),.pointer (some ⟨B6,0,none⟩)] (λm=>decide (m.1=c)&&!(decide (m.2.1≤tick)&&decide (tick≤m.2.2))) w:=by
 intro W m hb;obtain⟨m1,m2,m3⟩:=m;have q5:=(h5.next hb).cell 0;have q6:=(h6.next hb).cell 0;have l5:=(h5.next hb).lt;have l6:=(h6.next hb).lt;simp only[aK]at q5 q6;clear h5 h6 hb;obtain⟨E,hE⟩:∃E,decide (m1=c)=E:=⟨_,rfl⟩;have HE:=U hE;have tE:(m1==c)=E:=by rw[←hE];rfl
 dsimp only;rw[hE];clear hE;cases E
 ·go_in;go_wp2;go_ret;exact⟨bu aj,Bl.alloc (aB _ _) _⟩
 ·go_in;go_wp2_with fail;refine(win _ _ _ _).mono ?_;rintro e w1 ⟨rfl,hb1⟩;go_wp2;go_ret;exact⟨bu aj,Bl.call (Bl.alloc (aB _ _) _) hb1⟩
theorem aq6(x:aJ)(f:aQ)(st:Int)(C:Nat)(cs:List Value)(c a o tick zero:Int)(w:World)(hM:LU x f st C cs w)(hP:GU x f)(hc:-1≤c∧c≤(df f).length)(ha:0≤a)(ho:-8≤o∧o≤8)(ht:0≤tick∧tick≤1000)(hz:-200≤zero∧zero≤200):
  Calls prog 172 #[.pointer (some ⟨C,0,none⟩),.agg #[.int .i64 c,.int .i64 a,.int .i64 o],.int .i64 tick,.int .i64 zero] w λe w'=>∃v,e=.returned v∧bG w.heap.size w' v (lM x f st (jP f) (df f).length zero (c,a,o) tick)∧BL w w':=by
 have HM:=U hM;have HP:=U hP;clear hM hP;obtain⟨vg,g1,g2⟩:=HM.o.gaps;obtain⟨ag,cg,rfl,hg1,hg2⟩:=g2.shape;unfold maxLen at hg2;have HG:=U g2;clear g2;have x22:=(HM.o.bx.cell 22).trans g1;have x20:=(HM.o.bx.cell 20).trans HM.o.ticks;have lC:=HM.o.bx.lt;have Rq:C<w.heap.size+1+1:=ae;obtain⟨last,HL⟩:∃l:Nat,Hid ((df f).length=l):=⟨_,U rfl⟩;have L8:=U HP.o.gaps.2;rw[HL.o]at x22 hc hg1 L8 ⊢;obtain⟨ticks,HT⟩:∃t,Hid (x.ticks=t):=⟨_,U rfl⟩;rw[HT.o]at x20;obtain⟨E1,tE1⟩:∃b,(c==-1)=b:=⟨_,rfl⟩;obtain⟨E0,tE0⟩:∃b,(c==0)=b:=⟨_,rfl⟩;obtain⟨EA,Su⟩:∃b,(a==0)=b:=⟨_,rfl⟩;obtain⟨EL,tEL⟩:∃b,(c==(last:Int))=b:=⟨_,rfl⟩;have jL:=U tE1;have Fg:=U tE0;have OV:=U Su;have BP:=U tEL;go_in;go_wp2_with fail;have aU:=U ((Bx.new (W:=w) (t:=195) (vs:=[.int .i64 c,.int .i64 a,.int .i64 o]) rfl).alloc (.cells #[.int .i64 tick] 3));have bI:=U (Bx.new (W:=w.alloc (.cells #[.int .i64 c,.int .i64 a,.int .i64 o] 195)) (B:=w.heap.size+1) (t:=3) (vs:=[.int .i64 tick]) aj);have hb0:BL w ((w.alloc (.cells #[.int .i64 c,.int .i64 a,.int .i64 o] 195)).alloc (.cells #[.int .i64 tick] 3)):=Bl.alloc (Bl.alloc (aB _ _) _) _;go_wp2_with fail
 obtain⟨Qc,Hm⟩:∃R:Act→World→Prop,Hid (R=λa' w'=>∃us:Nat→Value,(Hid (Bx w.heap.size [.int .i64 c,.int .i64 a,.int .i64 o] w')∧Hid (Bx (w.heap.size+1) [.int .i64 tick] w')∧BL w w')∧a'=Act.mk [.pointer (some ⟨C,0,none⟩),.agg #[.int .i64 c,.int .i64 a,.int .i64 o],.int .i64 tick,.int .i64 zero,undef,.pointer (some ⟨w.heap.size,0,none⟩),.pointer (some ⟨w.heap.size+1,0,none⟩),undef,.slice none 0 0,.bool (E1.or (E0.and EA)),.bool EL,undef,undef,undef,undef,undef,undef,undef,us 18,us 19,us 20,us 21,us 22,us 23,us 24,us 25,us 26,us 27,us 28,us 29,us 30,us 31,us 32,us 33,us 34,us 35,us 36,us 37,us 38,undef,undef,undef,undef,undef,undef,undef,undef,undef,undef,undef,undef,undef,undef,undef,undef,undef,undef,undef,undef,undef,undef,undef,undef,undef,undef,undef,undef,undef,undef,undef,undef,undef,undef,undef,undef,undef,undef,undef,undef,undef,undef,undef,undef,undef,undef,undef,undef,undef,undef,undef,undef,undef,undef,undef,undef,undef,undef,undef,undef,undef,undef,undef,undef,undef,undef,undef,undef,undef,undef,undef,undef,undef,undef,undef,undef,undef,undef,undef,undef,undef,undef,undef,undef,undef,undef,undef,undef,undef,undef,undef,undef,undef,undef,undef,undef,undef,undef,undef,undef,undef,undef,undef,undef,undef,undef,undef,undef,undef,undef,undef,undef,undef,undef].toArray []):=⟨_,U rfl⟩;refine Xw Qc ?_ ?_
 ·refine⟨?_⟩;cases E1<;>cases E0<;>cases EA
  all_goals
   refine qz aF aF ?_;(repeat(go_big_quiet_step (fail)));refine aH ?_;intro w1 hb1;rw[Hm.o];exact Bg _ _ ⟨U (aU.o.next hb1),U (bI.o.next hb1),Bl.call hb0 hb1⟩ rfl
 clear aU bI hb0;refine⟨?_⟩;intro _ w1 hj;rw[Hm.o]at hj;obtain⟨us1,⟨aU,bI,hb⟩,ha⟩:=hj;subst ha;clear Hm Qc;have JJ:=U (HM.o.below hb);have p0:=aU.o.cell 0;have p1:=aU.o.cell 1;have p2:=aU.o.cell 2;have p3:=bI.o.cell 0;have l5:=aU.o.lt;have l6:=bI.o.lt;simp only[aK,bB]at p0 p1 p2 p3;have y20:=(JJ.o.bx.cell 20).trans JJ.o.ticks;rw[HT.o]at y20;have Rp:=JJ.o.bx.lt;clear Rq x22 x20 tE1 tE0 Su tEL;obtain⟨T0,tT0⟩:∃b,(tick==0)=b:=⟨_,rfl⟩;obtain⟨T1,tT1⟩:∃b,(tick==ticks)=b:=⟨_,rfl⟩;obtain⟨F,hF⟩:=nm (E1.or (E0.and EA));rw[hF.o];have HT0:=U tT0;have HT1:=U tT1;go_wp2_with fail;go_wp2_with fail
 obtain⟨Rj2,YO⟩:∃R:Act→World→Prop,Hid (R=λa' w'=>∃us:Nat→Value,(Hid (Bx w.heap.size [.int .i64 c,.int .i64 a,.int .i64 o] w')∧Hid (Bx (w.heap.size+1) [.int .i64 tick] w')∧BL w w')∧a'=Act.mk [.pointer (some ⟨C,0,none⟩),.agg #[.int .i64 c,.int .i64 a,.int .i64 o],.int .i64 tick,.int .i64 zero,undef,.pointer (some ⟨w.heap.size,0,none⟩),.pointer (some ⟨w.heap.size+1,0,none⟩),undef,.slice none 0 0,us 9,us 10,undef,undef,undef,undef,undef,undef,undef,us 18,us 19,us 20,us 21,us 22,us 23,us 24,us 25,us 26,us 27,us 28,us 29,us 30,us 31,us 32,us 33,us 34,us 35,us 36,us 37,us 38,us 39,us 40,us 41,us 42,us 43,us 44,us 45,us 46,us 47,us 48,us 49,us 50,us 51,us 52,us 53,us 54,us 55,.bool ((T0.and F.not).or (T1.and EL.not)),undef,undef,undef,undef,undef,undef,undef,undef,undef,undef,undef,undef,undef,undef,undef,undef,undef,undef,undef,undef,undef,undef,undef,undef,undef,undef,undef,undef,undef,undef,undef,undef,undef,undef,undef,undef,undef,undef,undef,undef,undef,undef,undef,undef,undef,undef,undef,undef,undef,undef,undef,undef,undef,undef,undef,undef,undef,undef,undef,undef,undef,undef,undef,undef,undef,undef,undef,undef,undef,undef,undef,undef,undef,undef,undef,undef,undef,undef,undef,undef,undef,undef,undef,undef,undef,undef,undef,undef,undef,undef,undef,undef,undef,undef,undef,undef].toArray []):=⟨_,U rfl⟩;refine Xw Rj2 ?_ ?_
 ·refine⟨?_⟩;cases F<;>cases EL<;>cases T0<;>cases T1
  all_goals
   refine qz aF aF ?_;(repeat(go_big_quiet_step (fail)));refine aH ?_;intro w2 hb2;rw[YO.o];exact Bg _ _ ⟨U (aU.o.next hb2),U (bI.o.next hb2),Bl.call hb hb2⟩ rfl
 clear p0 p1 p2 p3 l5 l6 y20 Rp tT0 tT1 JJ;clear aU bI hb;refine⟨?_⟩;intro _ w2 hj;rw[YO.o]at hj;obtain⟨us2,⟨aU,bI,hb⟩,ha⟩:=hj;subst ha;clear YO Rj2;obtain⟨G,hG⟩:=nm ((T0.and F.not).or (T1.and EL.not));rw[hG.o]
 have Yn:Hid (((decide (tick=0)&&!(decide (c=-1) || (decide (c=0)&&decide (a=0)))) || (decide (tick=x.ticks)&&!decide (c=(last:Int))))=G):=U (by
  rw[←hG.o,←hF.o,←HT0.o,←HT1.o,←jL.o,←Fg.o,←OV.o,←BP.o,HT.o];rfl)
 cases G
 rotate_left
 ·have qV:Hid (lM x f st (jP f) last zero (c,a,o) tick=[]):=U (by
   unfold lM;simp only
   rw[aG Yn.o])
  go_wp2;go_ret;exact⟨_,rfl,by rw[qV.o];exact nJ _ _ _ _,hb⟩
 obtain⟨by',hby⟩:∃b,Hid (o+zero=b):=⟨_,U rfl⟩;have hbb:-1000≤by'∧by'≤1000:=by have:=hby.o;omega
 have w1':IntKind.i64.wrap (o+zero)=by':=by rw[dE _ ae];exact hby.o
 have w2':IntKind.i64.wrap (-by')=-by':=dE _ ae
 have w3':IntKind.i64.wrap (12000-by')=12000-by':=dE _ ae
 obtain⟨KU,hlo0⟩:∃v,max 0 (-by')=v:=⟨_,rfl⟩;obtain⟨hi0,hhi0⟩:∃v,min 12000 (12000-by')=v:=⟨_,rfl⟩;have aCK:=U hlo0;have aCI:=U hhi0;obtain⟨vr,r1,r2⟩:=HM.o.reads;obtain⟨ar,cr,rfl,hr1,hr2⟩:=r2.shape;unfold maxLen at hr2;have tN:=U r2;clear r2;have Fy:Hid (∀r∈xU x st,0≤r.2.2.2.1∧r.2.2.2.1≤r.2.2.2.2∧r.2.2.2.2≤12000):=U (λr hr=>HP.o.reads.2 r (r9.1 hr).1);have zW:Hid (rQ x.reads st tick by'=vX (xU x st) tick by' (xU x st).length):=U (alU x st tick by').symm;have HRZ:Hid (vX (xU x st) tick by' 0=(KU,hi0)):=U (by unfold vX;rw[←hlo0,←hhi0];rfl);generalize xU x st=rs at *;have z19:=(HM.o.bx.cell 19).trans r1;have y19:=(hb.cell (p:=⟨C,19,none⟩) lC).trans z19;have Rp:C<w2.heap.size:=QT;have p2:=aU.o.cell 2;have p3:=bI.o.cell 0;have l5:=aU.o.lt;have l6:=bI.o.lt;simp only[aK,bB]at p2 p3;go_wp2_with fail;have agK:=U (Bx.new (W:=w2) (t:=41) (vs:=[.int .i64 KU,.int .i64 hi0]) rfl);have af0:=U (aU.o.alloc (.cells #[.int .i64 KU,.int .i64 hi0] 41));have af1:=U (bI.o.alloc (.cells #[.int .i64 KU,.int .i64 hi0] 41));have HB0:=U (Bl.alloc hb (.cells #[.int .i64 KU,.int .i64 hi0] 41));have h5l:w.heap.size+1<w2.heap.size:=l6;generalize w2.heap.size=xC at *
 generalize w2.alloc (.cells #[.int .i64 KU,.int .i64 hi0] 41)=w3 at *;clear p2 p3 l5 l6 hlo0 hhi0 w1' w2' w3' y19 z19 hb aU bI
 go_loopw [73] (λLi wr=>∃(k:Nat) (lo hi':Int),k≤rs.length∧Li=.int .i64 k∧Hid (vX rs tick by' k=(lo,hi'))∧Hid (Bx xC [.int .i64 lo,.int .i64 hi'] wr)∧Hid (Bx w.heap.size [.int .i64 c,.int .i64 a,.int .i64 o] wr)∧Hid (Bx (w.heap.size+1) [.int .i64 tick] wr)∧Hid (BL w wr)) (λLi _=>rs.length-(intOf Li).toNat)
 case atStart=>exact⟨0,KU,hi0,ae,rfl,HRZ,agK,af0,af1,HB0⟩
 case round=>
  clear agK af0 af1 HB0;obtain⟨k,lo,hi',hk,rfl,HR,F9,aU,bI,HB⟩:=hrel;have q0:=F9.o.cell 0;have q1:=F9.o.cell 1;have z12:=F9.o.free;have Nw:=F9.o.lt;have p0:=aU.o.cell 0;have p1:=aU.o.cell 1;have p2:=aU.o.cell 2;have p3:=bI.o.cell 0;have l5:=aU.o.lt;have l6:=bI.o.lt;simp only[aK,bB]at q0 q1 p0 p1 p2 p3;by_cases hlt:k<rs.length
  ·have xD:=Wo Fy.o hbb (tick:=tick) hk;have HRR:=Fy.o _ (eu hlt);have Pm:=U (alV (tick:=tick) (by':=by') hlt);obtain⟨q,oq,e1,d1,d2,d3,d4,d5⟩:=(tN.o.below HB.o).rdg_at hlt;subst e1;rw[HR.o]at Pm xD;generalize rs[k]=r at *;obtain⟨r1',r2',r3',Dm,Dp⟩:=r;simp only at d1 d2 d3 d4 d5 HRR xD;have i1:(0:Int)≤(k:Int):=ae;have i2:(k:Int)<rs.length:=ae;have n12:¬xC=wr.heap.size:=ae;obtain⟨TR,tTR⟩:∃b,(r3'==tick)=b:=⟨_,rfl⟩;have jE:=U tTR;cases TR
   ·have HN:Hid (vX rs tick by' (k+1)=(lo,hi')):=U (by rw[Pm.o,rdStep,aD (by have:=jE.o;simpa using this)]);have UM:=U (F9.o.alloc (.cells #[.int .i64 r1',.int .i64 r2',.int .i64 r3',.int .i64 Dm,.int .i64 Dp] 43));have FM:=U (aU.o.alloc (.cells #[.int .i64 r1',.int .i64 r2',.int .i64 r3',.int .i64 Dm,.int .i64 Dp] 43));have Zb:=U (bI.o.alloc (.cells #[.int .i64 r1',.int .i64 r2',.int .i64 r3',.int .i64 Dm,.int .i64 Dp] 43));have XM:=U (Bl.alloc HB.o (.cells #[.int .i64 r1',.int .i64 r2',.int .i64 r3',.int .i64 Dm,.int .i64 Dp] 43));go_wp2;go_roundw
    case rel=>exact⟨k+1,lo,hi',ae,aY,HN,UM,FM,Zb,XM⟩
    case measure=>exact aFF
   ·obtain⟨X,hX⟩:∃v,max lo (Dm-by')=v:=⟨_,rfl⟩;obtain⟨Y,hY⟩:∃v,min hi' (Dp-by')=v:=⟨_,rfl⟩;have HN:Hid (vX rs tick by' (k+1)=(X,Y)):=U (by rw[Pm.o,rdStep,aG (by have:=jE.o;simpa using this),←hX,←hY]);have v1:IntKind.i64.wrap (Dm-by')=Dm-by':=dE _ ae
    have v2:IntKind.i64.wrap (Dp-by')=Dp-by':=dE _ ae
    have UM:=U (((F9.o.set 0 (.int .i64 X) aj).set 1 (.int .i64 Y) aj).alloc (.cells #[.int .i64 r1',.int .i64 r2',.int .i64 r3',.int .i64 Dm,.int .i64 Dp] 43));have FM:=U (((aU.o.far (p:=⟨xC,0,none⟩) adl (.int .i64 X)).far (p:=⟨xC,1,none⟩) adl (.int .i64 Y)).alloc (.cells #[.int .i64 r1',.int .i64 r2',.int .i64 r3',.int .i64 Dm,.int .i64 Dp] 43));have Zb:=U (((bI.o.far (p:=⟨xC,0,none⟩) adl (.int .i64 X)).far (p:=⟨xC,1,none⟩) adl (.int .i64 Y)).alloc (.cells #[.int .i64 r1',.int .i64 r2',.int .i64 r3',.int .i64 Dm,.int .i64 Dp] 43));have XM:=U (Bl.alloc (Bl.setCell (Bl.setCell HB.o (p:=⟨xC,0,none⟩) (by show w.heap.size≤xC;omega) (.int .i64 X)) (p:=⟨xC,1,none⟩) (by show w.heap.size≤xC;omega) (.int .i64 Y)) (.cells #[.int .i64 r1',.int .i64 r2',.int .i64 r3',.int .i64 Dm,.int .i64 Dp] 43));simp only[Cw,Ed]at UM;go_wp2;go_roundw
    case rel=>exact⟨k+1,X,Y,ae,aY,HN,UM,FM,Zb,XM⟩
    case measure=>exact aFF
  ·obtain rfl:k=rs.length:=ae;have xD:=Wo Fy.o hbb (tick:=tick) hk;rw[HR.o]at xD;simp only at xD;have jM:Hid (rQ x.reads st tick (o+zero)=(lo,hi')):=U (by rw[hby.o,zW.o,HR.o])
   have qV:Hid (lM x f st (jP f) last zero (c,a,o) tick=if hi'<lo then []else if c=-1∨a≠0 then [(lo,hi')]else if(f.marks.any λm=>decide (m.1=c)&&!(decide (m.2.1≤tick)&&decide (tick≤m.2.2)))=true then []else if(jP f).getD c.toNat []=[]then [(lo,hi')]else inter [(lo,hi')] ((jP f).getD c.toNat [])):=U (by
    unfold lM;simp only
    rw[aD (by rw[Yn.o];simp),jM.o])
   clear zW HR jM HRZ tN Fy Yn HG;have aEH:C<wr.heap.size:=by have:=HB.o.size;omega
   have mh:=U (HM.o.below HB.o);obtain⟨vm,m1,m2⟩:=mh.o.marks;have z18:=(mh.o.bx.cell 18).trans m1;have Fu:=U m2;obtain⟨am,cm,rfl,hm1,hm2⟩:=m2.shape;unfold maxLen at hm2;clear m2 m1;obtain⟨FLT,aAp⟩:∃b,decide (hi'<lo)=b:=⟨_,rfl⟩;have nD:=U aAp;by_cases hc0:c<0
   ·have hc1:c=-1:=ae;by_cases hcmp:hi'<lo<;>have HCM:=U hcmp
    ·go_wp2;go_ret;exact⟨_,rfl,amg,HB.o⟩
    ·go_wp2;refine qz aF aF ?_;(repeat(go_big_quiet_step (fail)));refine aH ?_;intro w5 hb5;have X9:=F9.o.next hb5;have q0:=X9.cell 0;have q1:=X9.cell 1;have Nw:=X9.lt;simp only[aK,bB]at q0 q1;go_wp2;go_ret;refine⟨_,rfl,?_,Bl.alloc (Bl.call HB.o hb5) _⟩;rw[qV.o,aD Vv,aG (Or.inl hc1)];exact MI (base:=w.heap.size) (size:=2) (e:=41) w5 #[.int .i64 lo,.int .i64 hi'] 1 ah8 qN rfl
   have Su:=OV.o;cases EA
   ·have ha1:a≠0:=by simpa using Su
    by_cases hcmp:hi'<lo<;>have HCM:=U hcmp
    ·go_wp2;go_ret;exact⟨_,rfl,amg,HB.o⟩
    ·go_wp2;refine qz aF aF ?_;(repeat(go_big_quiet_step (fail)));refine aH ?_;intro w5 hb5;have X9:=F9.o.next hb5;have q0:=X9.cell 0;have q1:=X9.cell 1;have Nw:=X9.lt;simp only[aK,bB]at q0 q1;go_wp2;go_ret;refine⟨_,rfl,?_,Bl.alloc (Bl.call HB.o hb5) _⟩;rw[qV.o,aD Vv,aG (Or.inr ha1)];exact MI (base:=w.heap.size) (size:=2) (e:=41) w5 #[.int .i64 lo,.int .i64 hi'] 1 ah8 qN rfl
   obtain rfl:a=0:=by simpa using Su
   by_cases hcmp:hi'<lo<;>have HCM:=U hcmp
   ·go_wp2;go_ret;exact⟨_,rfl,amg,HB.o⟩
   have nz:=U (aqu w.heap.size (w.heap.size+1) c 0 o tick wr aU.o bI.o);have hen:∀args W,(callFunc 235 args).run prog W=.ok (.enter 235 args) W:=λ_ _=>rfl;go_wp2_with fail;refine(ar2 _ f.marks _ _ _ _ Fu.o hen nz.o).mono ?_;rintro e w4 ⟨rfl,hb4⟩;obtain⟨M,hM⟩:=nm ((f.marks.any λm=>decide (m.1=c)&&!(decide (m.2.1≤tick)&&decide (tick≤m.2.2))));rw[hM.o]at qV ⊢;have mD:=Bl.call HB.o hb4;cases M
   rotate_left
   ·go_wp2;go_ret;refine⟨_,rfl,?_,mD⟩;have e1:=qV.o;rw[aD Vv,aD ae,aG aj]at e1;rw[e1];exact nJ _ _ _ _
   obtain⟨n,rfl⟩:∃n:Nat,c=(n:Int):=⟨c.toNat,ae⟩;obtain⟨s,hs⟩:∃s,Hid ((jP f)[n]?=some s):=⟨(jP f)[n]'(by have:=HP.o.ink.1;have:=HL.o;omega),U (di _)⟩;obtain⟨hnl,hs'⟩:=gN.1 hs.o;have yL:=HP.o.ink.2 _ (eu hnl);rw[hs']at yL;have yL:=U yL;have HM4:=U (mh.o.below hb4);obtain⟨vi,k1,k2⟩:=HM4.o.ink;have z21:=(HM4.o.bx.cell 21).trans k1;obtain⟨ai,ci,rfl,hi1,hi2⟩:=k2.shape;unfold maxLen at hi2;obtain⟨bi,oi,vs,e1,hbi,q2,k3⟩:=k2.list_at hnl;subst e1;rw[hs']at k3;obtain⟨a9,c9,rfl,hs1,hs2⟩:=k3.shape;unfold maxLen at hs2;have HSI:=U k3;have i1:(0:Int)≤(n:Int):=ae;have i2:(n:Int)<(jP f).length:=ae;have X5:=aU.o.next hb4;have X1:=F9.o.next hb4;have p0:=X5.cell 0;have q0:=X1.cell 0;have q1:=X1.cell 1;have l5:=X5.lt;have Nw:=X1.lt;simp only[aK,bB]at p0 q0 q1;have Rp:C<w4.heap.size:=by have:=mD.size;omega
   have afx:Hid (lM x f st (jP f) last zero ((n:Int),0,o) tick=if s=[]then [(lo,hi')]else inter [(lo,hi')] s):=U (by
    have e1:=qV.o;rw[aD Vv,aD ae,aD aj]at e1;rw[e1]
    simp only[FQ,bN,hs.o,sj])
   clear qV p1 p2 p3 hs hs' k1 k2 k3;by_cases hse:s=[]
   ·subst hse;go_wp2;refine qz aF aF ?_;(repeat(go_big_quiet_step (fail)));refine aH ?_;intro w5 hb5;have X9:=X1.next hb5;have q0:=X9.cell 0;have q1:=X9.cell 1;have Nw:=X9.lt;simp only[aK,bB]at q0 q1;go_wp2;go_ret;refine⟨_,rfl,?_,Bl.alloc (Bl.call mD hb5) _⟩;rw[afx.o,aG aj];exact MI (base:=w.heap.size) (size:=2) (e:=41) w5 #[.int .i64 lo,.int .i64 hi'] 1 ah8 qN rfl
   have hsl:0<s.length:=agl.2 hse;have i3:(0:Int)<s.length:=ae;go_wp2;refine qz aF aF ?_;(repeat(go_big_quiet_step (fail)));refine aH ?_;intro w5 hb5;have X9:=X1.next hb5;have q0:=X9.cell 0;have q1:=X9.cell 1;have Nw:=X9.lt;simp only[aK,bB]at q0 q1;go_wp2_with fail;have aFm:=(hb5.cell (p:=⟨C,21,none⟩) Rp).trans z21;have lC5:C<w5.heap.size:=by have:=hb5.size;omega
   have X8:=X5.next hb5;have p0':=X8.cell 0;have l5':=X8.lt;simp only[aK]at p0';have q2':=(hb5.cell (p:=⟨bi,oi+n,none⟩) hbi).trans q2;have aDn:bi<w5.heap.size:=by have:=hb5.size;omega
   have apk:=U (HSI.o.below hb5);have QU:=Bl.call mD hb5;refine iQ [10] [9,10] 1 [] [(0,[0,1,2,3,4,5,6,7,8],9),(1,[],10)] [11,12,13,14,15] [] [(0,[_,_,_,_,_,_,_,_,_],9,_),(1,[],10,_)] [_,_,_,_,_] ?_;refine aH (ku ?_)
   (repeat(go_big_quiet_step (fail)));refine aH ?_
   intro w6 hb6;have Y9:=X9.next hb6;have q0:=Y9.cell 0;have q1:=Y9.cell 1;have Nw:=Y9.lt;simp only[aK,bB]at q0 q1;have IE:=Bl.call QU hb6;go_wp2;refine dZ (Bl.alloc hb6 _) (rW ?_);have eO:Hid (aC Shape.span (w6.alloc (.cells #[.int .i64 lo,.int .i64 hi'] 41)) (.slice (some ⟨w6.heap.size,0,none⟩) 1 1) [(lo,hi')]):=U (jT (MI (base:=0) (size:=2) (e:=41) w6 #[.int .i64 lo,.int .i64 hi'] 1 ae qN rfl));have apl:=U (apk.o.below (Bl.alloc hb6 (.cells #[.int .i64 lo,.int .i64 hi'] 41)));have ajB:=Bl.alloc IE (.cells #[.int .i64 lo,.int .i64 hi'] 41);have hle:lo≤hi':=Vv;have hn1:bF [(lo,hi')]:=⟨λs hs=>by simp at hs;subst hs;exact hle,List.pairwise_singleton _ _⟩;go_wp2_with fail;refine(aAr _ _ s [(lo,hi')] _ apl.o eO.o (amQ yL.o.1 (by have:=yL.o.2.1;omega) λs hs=>by have:=yL.o.2.2 s hs;omega) (amQ hn1 aj λs hs=>by simp at hs;subst hs;simp only;omega) yL.o.1 hn1 (λs hs=>by have:=yL.o.2.2 s hs;omega) (by have:=yL.o.2.1;simp;omega)).mono ?_;rintro e w7 ⟨vo,rfl,hO,bV⟩;obtain⟨a7,c7,rfl⟩:=bv hO;have QV:=Bl.call ajB bV;go_wp2;refine bS _ rfl (qy ?_)
   (repeat(go_big_quiet_step (fail)));refine aH ?_
   intro nq;go_wp2;go_ret;refine⟨_,rfl,?_,Bl.drewN QV nq⟩;rw[afx.o,aD hse,awc hn1 yL.o.1];exact jB (kJ hO ajB.size) nq
end
section
open Go.Maps
attribute [local go_sem] Qv
theorem Oc{x:Value}(h:23≠j)(e:cs[j]?=some x):(cs.set 23 v)[j]?=some x:=by rw[Ar h];exact e
theorem avS:(prog.info? 195).map (λi=>(i.zero,i.size,i.bytes))=some (some (.agg #[.int .i64 0,.int .i64 0,.int .i64 0]),3,24):=aF
structure P8(C M:Nat)(cs:List Value)(w:World)(ss:List dx)(v:Value)(wr:World):Prop where
 bx:Bx C (cs.set 23 v) wr
 row:qF 195 w.heap.size wr v ss
 ix:jG wr M ss
 turns:aA (λb=>b=C∨b=M∨w.heap.size≤b) w wr
theorem ahz(C M:Nat)(cs:List Value)(vg:Value)(gaps:List Sp)(ticks b:Int)(w:World)(hX:Bx C cs w)(h22:cs[22]?=some vg)(h20:cs[20]?=some (.int .i64 ticks))(h14:cs[14]?=some (.int .i64 b))(h23:cs[23]?=some (.slice none 0 0))(h24:cs[24]?=some (.map (some M)))
  (hg:Shape.span.list.reads (λq=>q≠C∧q≠M) w [vg] gaps) (hgb:(∀g∈gaps,0≤g.1∧g.1≤g.2∧g.2≤1000000)∧gaps.length≤1000) (ht:1≤ticks∧ticks≤400) (hb:0≤b∧b≤8) (hI:jG w M []) (hC:C≠M) :
  Calls prog 112 #[.pointer (some ⟨C,0,none⟩)] w λe w'=>e=.returned (.tuple #[])∧∃v,Shape.trip.list.reads (λq=>w.heap.size≤q) w' [v] (o9 (eY gaps ticks) b)∧Bx C (cs.set 23 v) w'∧jG w' M (o9 (eY gaps ticks) b)∧aA (λb=>b=C∨b=M) w w':=by
 have HS:Hid (P8 C M cs w (nR gaps ticks b 0 0 0) (.slice none 0 0) w):=U (by
  rw[axz];refine⟨?_,nJ w _ _ _,hI,aA.refl _ _⟩;obtain⟨hl,e⟩:=gN.1 h23
  rw[←e,List.set_getElem_self];exact hX)
 obtain⟨i0,hi,hz0,hz1,hz2⟩:=dY avS;go_in;go_wp2_with fail;obtain⟨ag,cg,rfl,hg1,hg2⟩:=(Shape.list_far hg).shape;unfold maxLen at hg2;have HG:=U hg;have L6:=U hgb;have jV:=U hX.lt;have Tx:=U hI.lt;have e23:23<cs.length:=(gN.1 h23).1;clear hg hgb hX hI;have hsz:gaps.length≤1000:=L6.o.2
 go_loopw [2] (λs2 wr=>∃(k:Nat) (v:Value),k≤gaps.length+2∧s2=.int .i64 ((k:Int)-1)∧Hid (P8 C M cs w (nR gaps ticks b k 0 0) v wr)) (λs2 _=>(gaps.length+2-(intOf s2+1)).toNat)
 case atStart=>exact⟨0,_,tX _,rfl,HS⟩
 case round=>
  clear HS;obtain⟨k,v,hk,rfl,HN⟩:=hrel;have q22:=(HN.o.bx.cell 22).trans (Oc ae h22);have lC:=HN.o.bx.lt;by_cases hlt:k<gaps.length+2
  ·have hle:(k:Int)-1≤gaps.length:=ae;have HST:=U (aaq C _ _ gaps ticks ((k:Int)-1) wr HN.o.bx (Oc ae h22) (Oc ae h20) (Shape.list_far (HN.o.turns.lst (Shape.span.list.mono HG.o λq hq h=>λo=>by rcases o with o|o|o;exact h.1 o;exact h.2 o;omega))) ae);have hsb:=Rw (λg hg=>⟨by have:=L6.o.1 g hg;omega,(L6.o.1 g hg).2.2⟩) (show 0≤ticks from ae) k ae;obtain⟨n,hn⟩:∃n:Nat,Hid (gX gaps ticks ((k:Int)-1)=(n:Int)):=⟨_,U (Zk hsb.2.2.1).symm⟩;have hn2:n≤1000000:=iH;rw[hn.o]at HST;clear hsb;go_wp2_with fail;refine HST.o.mono ?_;rintro e w1 ⟨rfl,hb1⟩;have O6:Hid (P8 C M cs w (nR gaps ticks b k 0 0) v w1):=U ⟨HN.o.bx.next hb1,il HN.o.row hb1,HN.o.ix.below hb1,HN.o.turns.trans (aA.of_below hb1)⟩;clear HN HST hb1 q22 lC;go_wp2
   go_loopw [18] (λLg wr=>∃(a:Nat) (v:Value),a≤n∧Lg=.int .i64 a∧Hid (P8 C M cs w (nR gaps ticks b k a 0) v wr)) (λLg _=>n-(intOf Lg).toNat)
   case atStart=>exact⟨0,_,tX _,rfl,O6⟩
   case round=>
    clear O6;obtain⟨a,v,ha,rfl,HN⟩:=hrel;have oV:=(HN.o.bx.cell 14).trans (Oc ae h14);have lC:=HN.o.bx.lt;by_cases hlt2:a<n
    ·have wn:IntKind.i64.wrap (-b)=-b:=dE _ ae;go_wp2
     go_loopw [4] (λs4 wr=>∃(i:Nat) (v:Value),i≤(2*b+1).toNat∧s4=.int .i64 ((i:Int)-b)∧Hid (P8 C M cs w (nR gaps ticks b k a i) v wr)) (λs4 _=>(b+1-intOf s4).toNat)
     case atStart=>exact⟨0,_,tX _,aj,HN⟩
     case round=>
      clear HN oV lC;obtain⟨i,v,hi',rfl,HN⟩:=hrel;have oV:=(HN.o.bx.cell 14).trans (Oc ae h14);have q24:=(HN.o.bx.cell 24).trans (Oc ae h24);have yG:=(HN.o.bx.cell 23).trans (yU e23);have lC:=HN.o.bx.lt;by_cases hlt3:i<(2*b+1).toNat
      ·have hib:(i:Int)-b≤b:=ae;obtain⟨N,hN⟩:=nm ((nR gaps ticks b k a i).length);obtain⟨av,cv,e⟩:=lu HN.o.row;rw[hN.o]at e;subst e;have kQ:Hid (Kh ((k:Int)-1,(a:Int),(i:Int)-b)):=U ⟨uU,uU,uU⟩;have Hd:Hid (N≤100000000000):=U (by rw[←hN.o];exact axx (λg hg=>⟨by have:=L6.o.1 g hg;omega,(L6.o.1 g hg).2.2⟩) L6.o.2 ae hb.2 hk ae ae);have Ai:=U (axy gaps ticks b k a i);have wK:=U (axv gaps ticks b k a i);generalize nR gaps ticks b k a i=ss at *;obtain⟨z,hz'⟩:=nm ((i:Int)-b);have hlz:w.heap.size≤wr.heap.size:=HN.o.turns.size;go_wp2;refine iQ [10] [10] 0 [] [(0,[0,1,2,3,4,5,6,7,8,9],10)] [] [] [(0,[_,_,_,_,_,_,_,_,_,_],10,_)] [] ?_;refine aH (iP ?_);have za:=Bx.new (W:=wr) (t:=195) (vs:=[.int .i64 ((k:Int)-1),.int .i64 (a:Int),.int .i64 ((i:Int)-b)]) rfl
       (repeat(go_big_quiet_step (fail)));refine aH ?_
       intro nq;have XS:=za.drewN nq;have HX0:=U ((HN.o.bx.alloc (.cells #[.int .i64 ((k:Int)-1),.int .i64 (a:Int),.int .i64 ((i:Int)-b)] 195)).drewN nq);have Fx:=U (il (il HN.o.row (Bl.alloc (aB _ _) (.cells #[.int .i64 ((k:Int)-1),.int .i64 (a:Int),.int .i64 ((i:Int)-b)] 195))) (Bl.drewN (aB _ _) nq));have HI0:=U ((HN.o.ix.below (Bl.alloc (aB _ _) (.cells #[.int .i64 ((k:Int)-1),.int .i64 (a:Int),.int .i64 ((i:Int)-b)] 195))).below (Bl.drewN (aB _ _) nq));have HT0:=U ((HN.o.turns.trans (aA.alloc _ _ (.cells #[.int .i64 ((k:Int)-1),.int .i64 (a:Int),.int .i64 ((i:Int)-b)] 195))).trans (aA.drewN _ _ nq));have hS:w.heap.size≤wr.heap.size:=hlz;have hMC:=Tx.o;have Vh:=jV.o;clear HN oV q24 yG lC za
       (try unfold BL at *);generalize wr.heap.size=S at *
       generalize (wr.alloc (.cells #[.int .i64 ((k:Int)-1),.int .i64 (a:Int),.int .i64 ((i:Int)-b)] 195)).drewN nq=wa at *;go_wp2_with (at_mapUpdate;refine aB5 _ rfl _ _ _ rfl M ss ((k:Int)-1,(a:Int),(i:Int)-b) rfl HI0.o rfl N rfl hN.o.symm kQ.o Ai.o (by have:=Hd.o;rw[hN.o];omega) ?_;intro wm hix hgm)
       refine bS _ rfl (jl ?_);have tA:aA (λq=>q=M) wa wm:=aA.grown hgm (λq hq=>by cases hq;rfl);have HX:=U (HX0.o.grown hgm (λe=>hC (by cases e;rfl)));have HO:=U (fO Fx.o tA (λq hq e=>by have:=(Fx.o.lt q hq).1;omega));have Qo:=XS.grown hgm (λe=>by cases e;omega);have OZ:=U hix;have Po:=U (HT0.o.trans (tA.mono (own':=λq=>q=C∨q=M∨w.heap.size≤q) λq hq=>.inr (.inl hq)));have pz:=Qo.cell 0;have pE:=Qo.cell 1;have xb2:=Qo.cell 2;simp only[aK,bB]at pz pE xb2;have xbl:=Qo.lt;have c0:=(HX.o.cell 23).trans (yU e23);have lC:=HX.o.lt;clear XS HX0 Fx HI0 HT0 hix hgm tA Qo;have gM:=HO.o;rw[hN.o]at gM;replace HO:=U gM;have hnl:=Hd.o;clear gM;go_wp2;refine iQ [7,10] [6,7,10] 1 [0,1,2,3] [(0,[4,5],6),(1,[],7),(0,[8,9],10)] [] [_,_,_,_] [(0,[_,_],6,_),(1,[],7,_),(0,[_,_],10,_)] [] ?_
       (repeat(go_big_quiet_step (first|fail)));refine aH (ku ?_)
       (repeat(first|(go_big_quiet_want;(first|apply bH eH bK rfl|apply bH eU bK rfl|apply bH eH gH rfl|apply bH eU gH rfl|apply bH eH fZ rfl|apply bH eU fZ rfl|apply bH eH mV rfl|apply bH eU mV rfl);(focus exact AU);(focus exact rfl);go_big_quiet_op;go_big_quiet_on)|go_big_quiet_step (fail)));refine aH ?_
       intro w2 hb2;have bL:=U (gV HO.o hb2);have hsz2:=hb2.size;go_wp2;refine dZ (Bl.alloc hb2 _) (rW ?_);go_wp2_with (at_builtin;go_loud (refine iE (bL.o.alloc _) ⟨w2.heap.size,0,none⟩ 1 1 [.int .i64 ((k:Int)-1),.int .i64 (a:Int),.int .i64 ((i:Int)-b)] hi hz0 hz1 hz2 ?_);intro v5 w4 hown' hgrow bY;obtain⟨a9,c9,rfl⟩:=bv hown')
       refine bS _ rfl (iP ?_);have HF:=U (Ep (c:=23) HX.o hb2 HO.o hown' hgrow bY ae (yU e23));obtain⟨zF,zR⟩:=HF.o.1
       (repeat(go_big_quiet_step (fail)));refine aH ?_
       intro nq;go_wp2;refine bS _ rfl (jl ?_);obtain⟨hx5,jX,t5,s5⟩:=HF.o.2 nq;have aU:=U hx5;have iA:=U jX;have T5:=U t5;have S5:=U s5;clear hx5 jX t5 s5 HF zF zR hgrow bY bL hown' hb2 hsz2;go_wp2;go_roundw
       case rel=>
        refine⟨i+1,.slice a9 (N+1) c9,ae,aia,U ⟨?_,?_,?_,?_⟩⟩
        ·have:=aU.o;rw[Zv]at this;exact this
        ·rw[wK.o];exact xk iA.o RY rfl
        ·rw[wK.o];exact OZ.o.turns T5.o (λo=>by rcases o with o|o;exact hC o.symm;have:=(HO.o.lt _ o.symm).1;omega)
        ·exact Po.o.trans (T5.o.mono λq o=>by rcases o with o|o;exact .inl o;exact .inr (.inr (HO.o.lt _ o.symm).1))
       case measure=>exact aFF
      ·obtain rfl:i=(2*b+1).toNat:=ae;have HE:=U (axu gaps ticks b k a);rw[HE.o]at HN;go_wp2;go_roundw
       case rel=>exact⟨a+1,v,ae,aY,HN⟩
       case measure=>exact aFF
    ·obtain rfl:a=n:=ae;have HE:=U (axw gaps ticks b k);have Yf:=HE.o;rw[hn.o,FQ]at Yf;rw[Yf]at HN;clear HE Yf;go_wp2;go_roundw
     case rel=>exact⟨k+1,v,ae,aY,HN⟩
     case measure=>exact aFF
  ·obtain rfl:k=gaps.length+2:=ae;go_wp2;refine bodyPost_end (Jf rfl _ _ _) rfl ?_;refine⟨rfl,v,?_,HN.o.bx,?_,⟨HN.o.turns.os,HN.o.turns.tape,HN.o.turns.output,HN.o.turns.size,λq hq ho=>HN.o.turns.block q hq (λo=>by rcases o with o|o|o;exact ho (.inl o);exact ho (.inr o);omega)⟩⟩
   ·rw[←alp];exact xh jC (Jb HN.o.row) (λq hq=>(HN.o.row.lt q hq).1)
   ·rw[←alp];exact HN.o.ix
end
theorem atm(hd:jQ d=true)(hc:c<d.1.length):1≤(zm d c).1∧(zm d c).1≤(zm d c).2∧(zm d c).2≤6440:=by
 obtain⟨r,s⟩:=d;unfold jQ at hd;simp only[bW,dG,mq]at hd hc;obtain⟨⟨⟨⟨_,_⟩,h3⟩,h4⟩,h5⟩:=hd
 have key:∀(l:List (Int×Sp)) (o:Sp),(∀t∈l,Jo r.length t=true)→1≤o.1→o.1≤o.2→
   1≤(l.foldl (λ(o:Sp) s=>if s.1=(c:Int)then(o.1+s.2.1,o.2+s.2.2)else o) o).1∧(l.foldl (λ(o:Sp) s=>if s.1=(c:Int)then(o.1+s.2.1,o.2+s.2.2)else o) o).1≤(l.foldl (λ(o:Sp) s=>if s.1=(c:Int)then(o.1+s.2.1,o.2+s.2.2)else o) o).2∧(l.foldl (λ(o:Sp) s=>if s.1=(c:Int)then(o.1+s.2.1,o.2+s.2.2)else o) o).2≤o.2+400*l.length:=by
  intro l
  induction l with
  |nil=>intro o _ h1 h2;simp;omega
  |cons t l ih=>
   intro o hl h1 h2;have ht:=hl t aj;unfold Jo xz at ht;simp only[bW,dG]at ht;rw[xO,dS];split
   ·have:=ih (o.1+t.2.1,o.2+t.2.2) (λt ht=>hl t GD) ic ic;refine⟨this.1,this.2.1,?_⟩;have:=this.2.2;dsimp only at this ⊢;omega
   ·have:=ih o (λt ht=>hl t GD) h1 h2;omega
 have hr:=h4 _ (eu hc);unfold xz at hr;simp only[bW,dG]at hr;unfold zm;have e:r.getD c (0,0)=r[c]:=by simp[bN,hc]
 dsimp only;rw[e];have:=key s r[c] h5 ae ae;omega
theorem ak7(hp:fA p=true)(t:dF)(c:Int):∀s∈mX p t c,0≤s.1∧s.2≤12000:=by
 obtain⟨h1,h2⟩:=ab9 hp t c;refine V9 h1.1 λn hn=>?_;obtain⟨y,g1,g2,_,_,rfl⟩:=(h2 n).1 hn;have hh:=Bz.1 hp
 have hy0:0≤y:=by
  have:0≤(fI p t).1:=by unfold fI rO;dsimp only;omega
  omega
 have hy1:y≤p.height:=by
  have:(fI p t).2≤p.height:=by unfold fI;dsimp only;omega
  omega
 have a1:=KT hp hy0;have a2:=KT hp hy1;have a3:gD p 0=p.low:=by simp[gD]
 have a4:gD p p.height=p.high:=by
  unfold gD;rw[Int.mul_comm,Int.mul_ediv_cancel _ ae];omega
 omega
theorem ahC(hp:fA p=true)(l:List dF)(c:Nat):∀s∈zk p l c,0≤s.1∧s.2≤12000:=by
 unfold zk;refine NJ λs hs=>?_;obtain⟨t,_,h⟩:=iB.1 hs;exact ak7 hp t c s h
structure fM(x:aJ):Prop where
 sta:(jU x.stas).1=0
 wind:BF x.fixed x.each=true
 ticks:1≤x.ticks∧x.ticks≤400
 term:0≤x.term∧x.term≤x.ticks
 week:0≤x.week∧x.week≤10000
 sheets:x.sheets.length≤64
 reads:x.reads.length≤64
 sh:∀k,(h:k<x.sheets.length)→lZ x x.sheets[k]=true
 rd:∀r∈x.reads,oW x r=true
theorem ma(h:dA x=0):fM x:=by
 unfold dA at h;split at h
 ·rename_i h0;exact absurd h h0
 ·rename_i h0;split at h
  ·rename_i h1;obtain⟨a,b,c,d,e,f,g,i⟩:=h1;refine⟨Jk,a,b,c,d,e,f,λk hk=>?_,λr hr=>mq.1 i r hr⟩;have:=mq.1 g k (fD.2 hk);unfold rD at this;rw[di hk]at this;exact(Bool.and_eq_true_iff.1 this).1
  ·cases h
structure qG(x:aJ)(f:aQ):Prop where
 sta:(sS x.stas f.station).2=0
 week:f.week=x.week
 ppr:fA f.sheet.paper=true
 ink:(jY f.sheet.paper f.sheet.trace f.sheet.blots).2=0
 drum:jQ f.sheet.drum=true
 cols:((f.sheet.drum.1.length:Nat):Int)+1=f.sheet.paper.cols
 pen:Bu f.sheet.band f.sheet.zlo f.sheet.zhi f.sheet.rate=true
 marks:(oO f.sheet.drum f.marks).1=0
theorem WH(h:lZ x f=true):qG x f:=by
 unfold lZ at h;simp only[bW,dG]at h;obtain⟨⟨⟨⟨⟨⟨⟨a,b⟩,c⟩,d⟩,e⟩,f⟩,g⟩,i⟩:=h;exact⟨a,b,c,d,e,f,g,i⟩
theorem akx{l:List dF}(h:(jY p l bl).2=0):(jY p l bl).1=sI p l bl∧∀s∈sI p l bl,s.length≤8:=by
 unfold jY at h ⊢;split at h
 ·rename_i h0;rw[aG h0];split at h
  ·rename_i h1;exact absurd h h1
  ·rename_i h1;rw[aD h1];split at h
   ·rename_i h2;rw[aG h2];split at h
    ·cases h
    ·rename_i h3;rw[aD h3];refine⟨rfl,λs hs=>?_⟩;by_cases hc:s.length≤8
     ·exact hc
     ·exact absurd (FU.2 ⟨s,hs,by simpa using(by omega:8<s.length)⟩) h3
   ·cases h
 ·cases h
theorem aiw(h:jQ f.sheet.drum=true):(∀g∈df f,1≤g.1∧g.1≤g.2∧g.2≤6440)∧(df f).length=f.sheet.drum.1.length∧1≤f.sheet.drum.1.length∧f.sheet.drum.1.length≤199:=by
 refine⟨λg hg=>?_,by simp[df,jg],?_⟩
 ·obtain⟨c,hc,rfl⟩:=dz.1 hg;exact atm h (fD.1 hc)
 ·unfold jQ at h;simp only[bW,dG]at h;omega
theorem xY(hx:fM x)(hf:qG x f):GU x f:=by
 have hp:=hf.pen;unfold Bu at hp;rw[dG]at hp;obtain⟨g1,g2,g3,g4⟩:=aiw hf.drum;obtain⟨k1,k2⟩:=akx hf.ink;have hc:=hf.cols;refine⟨ae,ae,ae,hx.ticks,⟨λg hg=>by have:=g1 g hg;omega,ae⟩,?_,⟨hx.reads,λr hr=>?_⟩,λg hg=>by have:=g1 g hg;omega⟩
 ·unfold jP;rw[k1];refine⟨by simp[sI];omega,λl hl=>⟨?_,k2 l hl,?_⟩⟩
  ·obtain⟨i,hi,rfl⟩:=mr hl;have:=aky f.sheet.paper f.sheet.trace f.sheet.blots i;unfold aP at this;rw[bN,di hi]at this;exact this
  ·unfold sI at hl;obtain⟨c,_,rfl⟩:=dz.1 hl;split
   ·simp
   ·exact ahC hf.ppr _ _
 ·have:=hx.rd r hr;unfold oW at this;simp only[bW,dG]at this;omega
theorem atl(h:jQ f.sheet.drum=true):∀g∈df f,1≤g.2:=λg hg=>by have:=(aiw h).1 g hg;omega
end Go.Proofs.YtfmckbjeofiegaaGreat
