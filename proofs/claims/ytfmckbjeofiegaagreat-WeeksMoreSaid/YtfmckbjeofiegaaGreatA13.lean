/- Part 13 of a proof. -/
import Derived.Test.YtfmckbjeofiegaaGreatA8
import Derived.Test.YtfmckbjeofiegaaGreatA9
import Derived.Test.YtfmckbjeofiegaaGreatA10
import Derived.Test.YtfmckbjeofiegaaGreatA11
set_option maxRecDepth 100000
set_option maxHeartbeats 16000000
set_option linter.all false
open Go Go.RowKit Go.Proofs.Tryz
namespace Go.Proofs.YtfmckbjeofiegaaGreat
variable {d:jD}{l:List Sp}{j k:Nat}
section
attribute [local go_sem] Qv
def kV(d:jD)(k:Nat):List Sp:=(List.range d.1.length).map λj=>(d.2.take k).foldl (QE j) (d.1.getD j (0,0))
theorem Vd(d:jD)(k:Nat):(kV d k).length=d.1.length:=by simp[kV]
theorem Kw(hj:j<(kV d k).length):(kV d k)[j]=(d.2.take k).foldl (QE j) (d.1.getD j (0,0)):=by simp[kV]
theorem atp(d:jD):kV d 0=d.1:=by
 apply oD
 ·simp[kV]
 ·intro i h1 h2;rw[Kw];simp[bN,h2]
theorem atn(d:jD):kV d d.2.length=jg d:=by
 unfold kV jg;simp only[jc];rfl
theorem ato(hk:k<d.2.length)(hj:j<(kV d k).length)(hs:d.2[k].1=(j:Int)):
  (kV d k).set j ((kV d k)[j].1+d.2[k].2.1,(kV d k)[j].2+d.2[k].2.2)=kV d (k+1):=by
 apply oD
 ·simp[kV]
 ·intro i h1 h2;have hi:i<(kV d k).length:=qO;rw[Kw h2,ail _ _ hk];by_cases e:i=j
  ·subst e;rw[Mx,←Kw hi,QE,aG hs]
  ·rw[Un (Ay e),Kw hi,QE,aD ae]
theorem aiv(hd:jQ d=true):∀(k:Nat),k≤d.2.length→∀j,(hj:j<(kV d k).length)→0≤(kV d k)[j].1∧(kV d k)[j].1≤40+400*k∧0≤(kV d k)[j].2∧(kV d k)[j].2≤40+400*k
 |0,_,j,hj=>by
  have hj':j<d.1.length:=by rwa[Vd]at hj
  have h:=ast hd hj';have e:(kV d 0)[j]=d.1[j]:=by rw[Kw];simp[bN,hj']
  rw[e];omega
 |k+1,hk,j,hj=>by
  have hj':j<(kV d k).length:=by rw[Vd]at hj ⊢;exact hj
  have ih:=aiv hd k ae j hj';have hs:=ahW hd (k:=k) ae;rw[Kw hj,ail _ _ (by omega:k<d.2.length),←Kw hj',QE]
  split<;>first|omega|(simp only;omega)
theorem aro(vr vs:Value)(d:jD)(w:World)(hr:aC Shape.span w vr d.1)(hs:aC Shape.trip w vs d.2)(hd:jQ d=true):
  Calls prog 233 #[.agg #[vr,vs]] w λe w'=>∃v,e=.returned v∧bG w.heap.size w' v (jg d)∧BL w w':=by
 obtain⟨a,c,rfl,hc1,hc2⟩:=hr.shape;obtain⟨b,m,rfl,hm1,hm2⟩:=hs.shape;unfold maxLen at hc2 hm2;have HR:=U hr;have HS:=U hs;clear hr hs;obtain⟨l1,l2,l3⟩:=ahV hd;have HD:=U (λk hk=>ahW hd (k:=k) hk);have HB:=U (aiv hd);have H0:=U (atp d);have HF:=U (atn d);clear hd;go_in;go_wp2_with fail;refine(aae _ d.1 _ (HR.o.below (Bl.alloc (aB _ _) _)) ae).mono ?_;rintro e w1 ⟨v1,rfl,ho1,hb1⟩;have HX:=U (show Bx w.heap.size [.slice a d.1.length c,.slice b d.2.length m] w1 from uu);have xx:=HX.o.cell;have xl:=HX.o.lt;have ol:Hid (bG (w.heap.size+1) w1 v1 (kV d 0)):=by rw[H0.o];exact U (by have:=ho1;rw[fH]at this;exact this)
 have B1:=U (ru hb1);clear ho1 hb1;go_wp2_with fail;clear xx xl
 go_loopw [12] (λiv wr=>∃k:Nat,k≤d.2.length∧iv=.int .i64 k∧Hid (bG (w.heap.size+1) wr v1 (kV d k))∧BL w wr) (λiv _=>d.2.length-(intOf iv).toNat)
 case atStart=>exact⟨0,ae,rfl,ol,B1.o⟩
 case round=>
  obtain⟨k,hk,rfl,HO,hb⟩:=hrel;by_cases hlt:k<d.2.length
  ·obtain⟨q,o,e1,d1,d2,d3⟩:=HS.o.trip_at hlt;have hbw:=fe _ _ d1;dsimp only at hbw;replace d1:=kept hb d1;replace d2:=kept hb d2;replace d3:=kept hb d3;have hs:=HD.o k hlt;obtain⟨j,hj⟩:∃j:Nat,d.2[k].1=(j:Int):=⟨d.2[k].1.toNat,ae⟩;have hjl:j<(kV d k).length:=by rw[Vd];omega
   have hbd:=HB.o k hk j hjl;have HG:=U (ato hlt hjl hj);have hgl:=Vd d k;generalize kV d k=xs at *;generalize d.2[k]=s at *;obtain⟨s0,s1,s2⟩:=s;simp only at d1 d2 d3 hs hj HG;subst hj;obtain⟨p1,p2,p3,p4,p5⟩:=hs;obtain⟨g,cap,e2,q1,q2,q3,q4,f1,f2,ff,_⟩:=Bq HO.o hjl;rw[hgl]at e2;obtain⟨y,hy⟩:∃y,xs[j]=y:=⟨_,rfl⟩;rw[hy]at f1 f2 hbd HG;have HY:=U hy;clear hy;obtain⟨y1,y2⟩:=y;simp only at f1 f2 hbd HG;obtain⟨b1,b2,b3,b4⟩:=hbd;subst e1 e2;have j1:(0:Int)≤(k:Int):=ae;have j2:(k:Int)<d.2.length:=ae;have j3:(0:Int)≤(j:Int):=ae;have j4:(j:Int)<d.1.length:=ae;have n1:¬q=wr.heap.size:=QT;have n2:¬g=wr.heap.size:=ae;have n3:¬wr.heap.size=g:=ae;have n4:¬q=g:=ae;have hwz:=hb.size;go_wp2;refine iQ [12] [12] 0 [] [(0,[0,1,2,3,4,5,6,7,8,9,10,11],12)] [] [] [(0,[_,_,_,_,_,_,_,_,_,_,_,_],12,_)] [] ?_;refine aH (iP ?_)
   (repeat(go_big_quiet_step (fail)));refine aH ?_
   intro n6;go_wp2;refine bS _ rfl (jl ?_);go_wp2_with fail;have bL:=U (fq (fq HO.o (Bl.alloc (aB _ _) (.cells #[.int .i64 (j:Int),s1,s2] 283))) (Bl.drewN (aB _ _) n6));have ja:=U (axO bL.o hjl (y1+s1));rw[HY.o]at ja;have bP:=U (((Bx.new (W:=wr) (t:=283) (vs:=[.int .i64 (j:Int),.int .i64 s1,.int .i64 s2]) rfl).drewN n6).far (p:=⟨g,j*2,none⟩) ic (.int .i64 (y1+s1)));have hb4:=Bl.setCell (Bl.drewN (Bl.alloc hb (.cells #[.int .i64 (j:Int),s1,s2] 283)) n6) (p:=⟨g,j*2,none⟩) ic (.int .i64 (y1+s1));generalize hw4:World.setCell _ _ _=w4;have fu:Hid (bG (w.heap.size+1) w4 (.slice (some ⟨g,0,none⟩) d.1.length cap) (xs.set j (y1+s1,y2))):=by rw[←hw4];exact ja
   have aX:Hid (Bx wr.heap.size [.int .i64 (j:Int),s1,s2] w4):=by rw[←hw4];exact bP
   have hb5:BL w w4:=by rw[←hw4];exact hb4
   clear hw4 hb4 ja bP bL f1 f2 ff d1 d2 d3;have hl4:j<(xs.set j (y1+s1,y2)).length:=by simpa using hjl
   obtain⟨r1,r2,r3,r4,r5⟩:=axM fu.o hl4;simp only[Mx]at r3 r4;have xx:=aX.o.cell;have xl:=aX.o.lt;refine iQ [12] [12] 0 [] [(0,[0,1,2,3,4,5,6,7,8,9,10,11],12)] [] [] [(0,[_,_,_,_,_,_,_,_,_,_,_,_],12,_)] [] ?_;refine aH (iP ?_)
   (repeat(go_big_quiet_step (fail)));refine aH ?_
   intro n7;have iA:=U (K6 (fq fu.o (Bl.drewN (aB _ _) n7)) hl4 (y2+s2));simp only[Mx,Zv]at iA;have hb6:=Bl.setCell (Bl.drewN hb5 n7) (p:=⟨g,j*2+1,none⟩) ic (.int .i64 (y2+s2));go_wp2;refine bS _ rfl (jl ?_);go_wp2;go_roundw
   case rel=>exact⟨k+1,ae,aY,by rw[←HG.o];exact iA,hb6⟩
   case measure=>exact aFF
  ·have hkk:k=d.2.length:=ae;subst hkk;have bL:Hid (bG (w.heap.size+1) wr v1 (jg d)):=by rw[←HF.o];exact HO
   go_wp2;go_ret;exact⟨_,rfl,kJ bL.o ae,hb⟩
def UA(p:Int×Int)(e0:Int)(w:World)(e:Ending)(w':World):Prop:=e=.returned (.tuple #[.agg #[p.1,p.2],e0])∧BL w w'
theorem Vb(d:jD):(jg d).length=d.1.length:=by simp[jg]
theorem aiu(h:k<(jg d).length):(jg d)[k]=zm d k:=by simp[jg]
theorem aq5(vr vs:Value)(d:jD)(cc:Nat)(w:World)(hr:aC Shape.span w vr d.1)(hs:aC Shape.trip w vs d.2)(hd:jQ d=true)(hcc:cc<d.1.length):
  Calls prog 169 #[.agg #[vr,vs],.int .i64 (cc:Int)] w (UA (zm d cc) 0 w):=by
 obtain⟨a,c,rfl,hc1,hc2⟩:=hr.shape;obtain⟨b,m,rfl,hm1,hm2⟩:=hs.shape;unfold maxLen at hc2 hm2;have HR:=U hr;have HS:=U hs;clear hr hs;obtain⟨l1,l2,l3⟩:=ahV hd;have HD:=U hd;have HE:=U (asv hd);have hgl:=Vb d;have hlt:cc<(jg d).length:=ae;have HG:=U (aiu hlt);have HW:Hid (dw (cc:Int) 0 ((d.1.length:Int)-1)=true):=U adq;clear hd;have i1:(0:Int)≤(cc:Int):=ae;have i2:(cc:Int)<d.1.length:=ae;go_in;go_wp2_with fail;refine((Z8 _ _ d _ (HR.o.below (by exact rf)) (HS.o.below (by exact rf))).mono (λe w' h=>(⟨by rw[h.1,HE.o],h.2⟩:e=.returned (.int .i64 0)∧_))).mono ?_;rintro e w1 ⟨rfl,hb1⟩;have HX:=U (show Bx w.heap.size [.slice a d.1.length c,.slice b d.2.length m] w1 from uu);have HY:=U (show Bx (w.heap.size+1) [.int .i64 0,.int .i64 0] w1 from uu);have B1:BL w w1:=by exact rf
 clear hb1;have xx:=HX.o.cell;have xl:=HX.o.lt;go_wp2_with fail;refine((Qy _ _ _ _).mono (λe w' h=>(⟨by rw[h.1,HW.o],h.2⟩:e=.returned (.bool true)∧_))).mono ?_;rintro e w2 ⟨rfl,rfl⟩;go_wp2_with fail;refine(aro _ _ d _ (HR.o.below B1) (HS.o.below B1) HD.o).mono ?_;rintro e w2 ⟨v2,rfl,hO,hb2⟩;obtain⟨g,cap,e2,q1,q2,q3,q4,f1,f2,ff,_⟩:=Bq hO hlt;rw[HG.o]at f1 f2;rw[hgl]at e2;have qE:=U (HY.o.next hb2);have yy:=qE.o.cell;have yf:=qE.o.free;have B2:=Bl.call B1 hb2;clear hO hb2 xx xl;subst e2;generalize zm d cc=gg at *;obtain⟨g1,g2⟩:=gg;simp only at f1 f2;go_wp2;refine kE (v:=.tuple #[.agg #[g1,g2],.int .i64 0]) (by simp[results,results169,go_sem,yy]) rfl ⟨rfl,?_⟩;exact rf
end
section
attribute [local go_sem] Qv aC1 aC2
def uM(ss:List dx)(sets:List (List Sp))(zero:Int)(k:Nat):List Sp:=(List.range k).flatMap λn=>gF (aP sets n) ((ss.getD n (0,0,0)).2.2+zero)
theorem akL(ss:List dx)(sets:List (List Sp))(zero:Int)(k:Nat):uM ss sets zero (k+1)=uM ss sets zero k++gF (aP sets k) ((ss.getD k (0,0,0)).2.2+zero):=by simp[uM,jq]
def Us(l:List Sp):Prop:=bF l∧∀s∈l,-20000≤s.1∧s.1≤20000∧-20000≤s.2∧s.2≤20000
theorem awZ(h:Us l):l.length≤40001:=by
 have:=alo (a:=-20000) (b:=20000) h.1 λs hs=>by have:=h.2 s hs;omega
 omega
end
section
attribute [local go_sem] Qv
theorem awx(ss:List dx)(sets:List (List Sp))(zero:Int):∀ {k m:Nat},k≤m→(uM ss sets zero k).length≤(uM ss sets zero m).length
 |k,m,h=>by
  obtain⟨d,rfl⟩:∃d,m=k+d:=⟨m-k,ae⟩;have e:List.range (k+d)=List.range k++(List.range d).map (k+·):=agq;simp only[uM,e,mO,dn];omega
theorem an5(B:Nat)(vs:List Value)(v6 vl:Value)(ss:List dx)(sets:List (List Sp))(zero:Int)(w:World)(hX:Bx B vs w)(h6:vs[23]?=some v6)(hs:aC Shape.trip w v6 ss)(hl:aC Shape.span.list w vl sets)(hlen:sets.length=ss.length)
  (hn:(uM ss sets zero sets.length).length≤1000000000000) (hsb:∀l∈sets,Us l) (hz:-200≤zero∧zero≤200) (hss:∀x∈ss,-8≤x.2.2∧x.2.2≤8) :
  Calls prog 68 #[.pointer (some ⟨B,0,none⟩),vl,zero] w λe w'=>∃v,e=.returned v∧bG w.heap.size w' v (norm (yA ss sets zero))∧BL w w':=by
 obtain⟨a,c,rfl,hc1,hc2⟩:=hl.shape;obtain⟨a6,c6,rfl,hc3,hc4⟩:=hs.shape;unfold maxLen at hc2 hc4;have CK:=λ(w':World) (hb:BL w w')=>((hX.next hb).cell 23).trans h6;have hlt:=hX.lt;have C22:=U CK;clear CK hX h6;have HS:=U hs;have HL:=U hl;clear hs hl;have HF:Hid (yA ss sets zero=uM ss sets zero sets.length):=by unfold yA uM;rw[hlen];exact U rfl
 go_in;have jm:=U hlen;clear hlen
 have HI:=U (λ(k:Nat) (s:Sp) (h:s∈uM ss sets zero k)=>show -100000≤s.1∧s.1≤s.2∧s.2≤100000 from by
  obtain⟨n,_,h⟩:=iB.1 h;simp only[gF,dz]at h;obtain⟨t,ht,rfl⟩:=h
  have h1:aP sets n∈sets:=by
   unfold aP at ht ⊢;rw[bN]at ht ⊢
   cases e:sets[n]? with
   |none=>rw[e]at ht;simp at ht
   |some l=>simp only[sj];exact qX e
  have h2:=(hsb _ h1).2 t ht;have h3:=(hsb _ h1).1.1 t ht
  have h4:-8≤(ss.getD n (0,0,0)).2.2∧(ss.getD n (0,0,0)).2.2≤8:=by
   rw[bN]
   cases e:ss[n]? with
   |none=>simp
   |some x=>simp only[sj];exact hss x (qX e)
  dsimp only
  omega)
 have kQ:=U hsb;have gz:=U hss;have HN:=U hn;clear hsb hss hn;go_wp2
 go_loopw [7,12] (λou iv wr=>∃k:Nat,k≤sets.length∧iv=.int .i64 k∧Hid (bG w.heap.size wr ou (uM ss sets zero k))∧BL w wr) (λ_ iv _=>sets.length-(intOf iv).toNat)
 case atStart=>exact⟨0,ae,rfl,U (yC rfl),aB _ _⟩
 case round=>
  obtain⟨k,hk,rfl,HO,hb⟩:=hrel;obtain⟨a5,c5,rfl⟩:=bv HO.o;by_cases hlt:k<sets.length
  ·have hks:k<ss.length:=by have:=jm.o;omega
   obtain⟨q1,o1,u,e1,_,d1,hu⟩:=(HL.o.below hb).list_at hlt;obtain⟨q2,o2,e2,g1,g2,g3⟩:=(HS.o.below hb).trip_at hks;subst e1 e2;have c0:=C22.o wr hb;have HT:=U (akL ss sets zero k);rw[show aP sets k=sets[k]from azS,show ss.getD k (0,0,0)=ss[k] by simp[bN,hks]]at HT;have hB:=kQ.o _ (eu hlt);have hZ:=gz.o _ (eu hks);have hln:=awx ss sets zero (show k+1≤sets.length from ae);have hN1:=HN.o;rw[HT.o,dn]at hln;simp only[gF,fC]at hln;have hS:=U (λs (h:s∈sets[k])=>show -1000000≤s.1∧s.2≤1000000∧s.1≤s.2 from by have:=hB.2 s h;have:=hB.1.1 s h;omega);have HU:=U hu;clear hB hu;generalize ss[k]=x at *;obtain⟨x1,x2,x3⟩:=x;simp only at g1 g2 g3 hZ HT;generalize sets[k]=l at *;have i1:(0:Int)≤(k:Int):=ae;have i2:(k:Int)<sets.length:=ae;have i3:(k:Int)<ss.length:=ae;have w1:IntKind.i64.wrap (x3+zero)=x3+zero:=dE _ ae;have hsz:=hb.size;have hlw:B<wr.heap.size:=ae;go_wp2_with fail;refine(an6 _ l (x3+zero) wr HU.o ae hS.o ae).mono ?_;rintro e w1' ⟨u2,rfl,hO2,hb1⟩;have HL2:=U (jT hO2);have ol:=U (fq HO.o hb1);have hb2:=Bl.call hb hb1;have hsz1:=hb2.size;clear hO2 c0 d1 g1 g2 g3;have abv:(uM ss sets zero k).length+(gF l (x3+zero)).length≤1000000000000:=by simp only[gF,fC];omega
   go_wp2_with (at_builtin;go_loud (refine Ov _ rfl _ _ rfl w.heap.size _ _ (uM ss sets zero k) (gF l (x3+zero)) rfl ol.o rfl HL2.o abv hsz1 ?_);intro v' w4 ho' hgrow _)
   have hb4:BL w w4:=gJ hb2 hgrow hsz1 (λj hj=>(ol.o.lt j hj).1);have fu:=U ho';clear ho' hgrow;go_roundw
   case rel=>exact⟨k+1,ae,aY,RX,hb4⟩
   case measure=>exact aFF
  ·have hkk:k=sets.length:=ae;have hk1:(uM ss sets zero k).length≤1000000000000:=by rw[hkk];exact HN.o
   have HLv:=jT HO.o;have HIk:=HI.o k;clear HI;rw[←hkk]at HF;have tH:=HF;clear HF;have hsz:=hb.size;generalize uM ss sets zero k=M at *;have HG:=U (together _ M wr HLv hk1 HIk);clear HLv hk1 HIk;go_wp2_with fail;refine HG.o.mono ?_;rintro e w2 ⟨v,rfl,hO,hb2⟩;have HR:=U hO;clear hO;go_wp2;go_ret;refine⟨_,rfl,?_,Bl.call hb hb2⟩;rw[tH.o];exact kJ HR.o hsz
end
end Go.Proofs.YtfmckbjeofiegaaGreat
