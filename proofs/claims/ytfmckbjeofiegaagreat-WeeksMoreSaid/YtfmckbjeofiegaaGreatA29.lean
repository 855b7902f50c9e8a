/- Part 29 of a proof. -/
import Derived.Test.YtfmckbjeofiegaaGreatA19
import Derived.Test.YtfmckbjeofiegaaGreatA26
import Derived.Test.YtfmckbjeofiegaaGreatA27
import Derived.Test.YtfmckbjeofiegaaGreatA28
set_option maxRecDepth 100000
set_option maxHeartbeats 16000000
set_option linter.all false
open Go Go.RowKit Go.Proofs.Tryz
namespace Go.Proofs.YtfmckbjeofiegaaGreat
variable {a:Act}{af:Array Edge}{ops:Array Oper}{d:jD}{Q:Exit→Act→World→Prop}{F:Fence}{f:aQ}{fn:Func}{rest:List Oper}{base:Nat}{P:Program}{α:Type}{e ty:TypeId}{v:Value}{x:aJ}{W w0:World}
section
attribute [local go_sem] Qv
theorem ak5{m:List xP}(h:(oO d m).1=0):m.length≤64:=by
 unfold oO at h;split at h
 ·split at h
  ·simp at h
  ·omega
 ·simp at h
def ap3(x:aJ)(w:World)(e:Ending)(w':World):Prop:=BL w w'∧((∃q,q≠0∧¬(dA x=0∧(nL x).length≤12∧Fits x)∧e=.returned (.tuple #[.slice none 0 0,.int .i64 q]))∨((dA x=0∧(nL x).length≤12∧Fits x)∧∃v,e=.returned (.tuple #[v,.int .i64 0])∧qF 82 w.heap.size w' v (nL x)))
theorem aCc(x:aJ)(cx:List Value)(w:World)(hx:dM w x cx):
  Calls prog 58 #[.agg cx.toArray] w (ap3 x w):=by
 have bZ:=U hx;have bE:=U hx.len
 have Ff:Hid (∃a c,cx[7]?=some (.slice a x.sheets.length c)∧x.sheets.length≤c∧c≤maxLen):=U (by
  obtain⟨va,vs,vr,rfl,hX⟩:=hx;obtain⟨a,c,rfl,h1,h2⟩:=hX.sheets.shape
  exact⟨a,c,rfl,h1,h2⟩)
 clear hx;go_in;go_wp2_with (with_reducible_and_instances refine dI 9 ?_)
 have aZ:=U (Bx.new (W:=w) (t:=30) (vs:=cx) rfl);have HB0:=U (Bl.alloc (aB w.heap.size w) (.cells cx.toArray 30));generalize w.alloc (.cells cx.toArray 30)=w0 at *;refine⟨?_⟩;have HC:=U (Cx.whole aZ.o);obtain⟨z,hz⟩:=nm (dA x);go_wp2_with (refine dh bK rfl HC.o bE.o ?_)
 refine(SG x cx w0 (bZ.o.below HB0.o)).mono ?_;rintro e w1 ⟨rfl,hb1⟩;rw[hz.o];have aZ:=U (aZ.o.next hb1);have HB1:=U (Bl.call HB0.o hb1);clear hb1 HB0 HC;by_cases hz0:z=0
 ·subst hz0;have HC:=U (Cx.whole aZ.o);have hok:=ma hz.o;have VL:=hok.sheets;have dO:=U hok;clear hok;go_wp2_with (refine dh bK rfl HC.o bE.o ?_)
  refine(aBx x cx w1 (bZ.o.below HB1.o) ae (by have:=dO.o.reads;omega) (λf hf=>by have:=ak5 (dO.o.sht hf).marks;omega)).mono ?_;rintro e w2 ⟨v,rfl,hO,hb2⟩;obtain⟨a5,c5,e5⟩:=lu hO;subst e5;have HO:=U hO;have bg:=U (aZ.o.next hb2);have HB2:=U (Bl.call HB1.o hb2);obtain⟨m,hm⟩:=nm ((nL x).length);rw[hm.o];have hs1:=HB1.o.size;clear hO hb2 HB1 aZ HC;by_cases hl:m≤12
  ·have t1:decide ((12:Int)<(m:Int))=false:=bC;have t2:¬12<m:=ae;obtain⟨a7,c7,h7,h71,h72⟩:=Ff.o;unfold maxLen at h72;have c7':=(bg.o.cell 7).trans h7;have l7:=bg.o.lt;obtain⟨n,hn⟩:=nm x.sheets.length;rw[hn.o]at c7' h71 VL;clear h7;go_wp2_with fail;clear c7' l7
   go_loopw [22] (λJj wr=>∃k:Nat,k≤n∧Jj=.int .i64 k∧Hid (∀j f,j<k→x.sheets[j]?=some f→gG x f=false)∧Hid (BL w2 wr)) (λJj _=>n-(intOf Jj).toNat)
   case atStart=>exact⟨0,ae,rfl,U (λj f hj=>ae),U (aB _ _)⟩
   case round=>
    obtain⟨k,hk,rfl,HA,fP⟩:=hrel;by_cases hlt:k<n
    ·have HXr:=U (bg.o.next fP.o);have HC:=U (Cx.whole HXr.o);obtain⟨f,hf⟩:∃f,Hid (x.sheets[k]?=some f):=⟨_,U (di iH)⟩;have i1:(0:Int)≤(k:Int):=ae;have i2:(k:Int)<(n:Int):=ae;go_wp2_with (refine dh bK rfl HC.o bE.o ?_)
     refine(Xi x f cx k wr wr (Same.refl _ _) (bZ.o.below (Bl.call HB2.o fP.o)) dO.o hf.o).mono ?_;rintro e w4 ⟨hb4,hP⟩;have bX:=U (Bl.call fP.o hb4);clear hb4 HC;rcases hP with⟨cO,rfl⟩|⟨cO,C,cs,rfl,uE,hC2,hCH⟩
     ·have nE:=U cO;clear cO;go_wp2;go_ret2
      exact⟨Bl.call HB2.o bX.o,.inl ⟨2,ae,λh=>by
       have h1:=h.2.2 f (qX hf.o);rw[nE.o]at h1
       exact Bool.noConfusion h1,rfl⟩⟩
     ·have nE:=U cO;clear cO hCH uE hC2;go_wp2;go_roundw
      case rel=>exact⟨k+1,ae,aY,U (λj g hj hg=>by
       by_cases e:j<k
       ·exact HA.o j g e hg
       ·obtain rfl:j=k:=ae;have:=hf.o.symm.trans hg;cases this
        exact nE.o),bX⟩
      case measure=>exact aFF
    ·obtain rfl:k=n:=ae;go_wp2;go_ret2
     exact⟨Bl.call HB2.o fP.o,.inr ⟨⟨hz.o,by rw[hm.o];exact hl,λf hf=>by
      obtain⟨j,hj,rfl⟩:=mr hf
      exact HA.o j _ iH (di hj)⟩,_,rfl,by
      have h1:=EP HO.o (show w.heap.size≤w1.heap.size from ae);have h2:=il h1 fP.o;rw[hm.o]at h2
      exact h2⟩⟩
  ·have t1:decide ((12:Int)<(m:Int))=true:=bC;have t2:12<m:=ae;go_wp2;go_ret2;exact⟨HB2.o,.inl ⟨2,ae,λh=>by have:=h.2.1;rw[hm.o]at this;omega,rfl⟩⟩
 ·have HZ0:=U hz0;have q1:(z != 0)=true:=WN;clear hz0;go_wp2;go_ret2;exact⟨HB1.o,.inl ⟨z,HZ0.o,λh=>HZ0.o (by rw[←hz.o];exact h.1),rfl⟩⟩
def UF(g:Nat)(lb:Array Value)(p:fB→Bool)(w:World):Prop:=∀W (c:fB),BL w W→Calls prog g (#[.agg #[.int .i64 c.1,.int .i64 c.2.1,.int .i64 c.2.2]]++lb) W (oK (p c) W)
theorem abN:(prog.info? 45).map (λi=>(i.zero,i.size,i.bytes))=some (some (.agg #[.int .i64 0,.int .i64 0,.int .i64 0]),3,24):=aF
theorem akv:(prog.info? 43).map (λi=>(i.zero,i.size,i.bytes))=some (some (.agg #[.int .i64 0,.int .i64 0,.int .i64 0,.int .i64 0,.int .i64 0]),5,40):=aF
theorem abM:(prog.info? 65).map (λi=>(i.zero,i.size,i.bytes))=some (some (.agg #[.int .i64 0,.int .i64 0,.int .i64 0,.int .i64 0,.int .i64 0,.int .i64 0,.int .i64 0,.int .i64 0,.int .i64 0,.int .i64 0,.int .i64 0,.int .i64 0,.int .i64 0,.int .i64 0,.slice none 0 0,.slice none 0 0,.slice none 0 0,.slice none 0 0,.int .i64 0,.int .i64 0,.int .i64 0,.int .i64 0,.slice none 0 0,.slice none 0 0]),24,288):=aF
theorem azQ(h:qG x f):f.sheet.trace.length≤1000000∧f.sheet.drum.1.length≤1000000∧f.sheet.drum.2.length≤1000000:=by
 have h1:=h.drum;unfold jQ at h1;simp only[bW,dG]at h1;have h2:=h.ink;unfold jY at h2;rw[aG h.ppr]at h2;refine⟨?_,ae,ae⟩;split at h2
 ·rename_i h3;exact absurd h2 h3
 ·rename_i h3;unfold qp at h3;split at h3
  ·exact absurd aW h3
  ·omega
theorem aCf(x:aJ)(cx:List Value)(g:Nat)(lb:Array Value)(p:fB→Bool)(w:World)(hx:dM w x cx)(hok:fM x)(hnm:∀f∈x.sheets,f.names.length≤1000000∧f.sheet.blots.length≤1000000)(hg:Enters prog g)(hp:UF g lb p w):
  Calls prog 100 #[.agg cx.toArray,.func (.func g) #[] lb] w λe w'=>∃Em,e=.returned (.agg Em.toArray)∧dM w' (lF x p) Em∧BL w w':=by
 have bE:=U hx.len;have Aj:=U hx.one;have dO:=U hok;have JK:=U hnm;have HP:=U hp;have hg':∀(args:Array Value) (w:World),(callFunc g args).run prog w=.ok (.enter g args) w:=hg;obtain⟨va,vs,vr,jR,hX⟩:=hx;obtain⟨kD,jI,rfl,hs1,hs2⟩:=hX.sheets.shape;obtain⟨UU,U1,rfl,hr1,hr2⟩:=hX.reads.shape;unfold maxLen at hs2 hr2;have HX:=U hX;have hns:=hok.sheets;have hnr:=hok.reads;obtain⟨n,hn⟩:∃n:Nat,Hid (x.sheets.length=n):=⟨_,U rfl⟩;obtain⟨nr,Q7⟩:∃n:Nat,Hid (x.reads.length=n):=⟨_,U rfl⟩;obtain⟨ns,Nn⟩:∃n:Nat,Hid (x.stas.length=n):=⟨_,U rfl⟩;have hsl:ns≤32:=by have:=(WT.1 hok.sta).1;have:=Nn.o;omega
 rw[hn.o]at jR hs1 hns;rw[Q7.o]at jR hr1 hnr;have jV:=U jR;have FI:=U (Shape.sta.list.mono hX.stas λq hq _=>hq);clear hX hok jR hnm hp hg;go_in;go_wp2_with (with_reducible_and_instances refine dI 16 ?_)
 have bg:=U ((Bx.new (W:=w) (t:=30) (vs:=cx) rfl).alloc (.cells #[.slice none 0 0,.int .i64 0,.int .i64 0,.int .i64 0,.int .i64 0,.int .i64 0,.int .i64 0,.slice none 0 0,.slice none 0 0] 30));have aX:=U (Bx.new (W:=w.alloc (.cells cx.toArray 30)) (B:=w.heap.size+1) (t:=30) (vs:=[.slice none 0 0,.int .i64 0,.int .i64 0,.int .i64 0,.int .i64 0,.int .i64 0,.int .i64 0,.slice none 0 0,.slice none 0 0]) aj);have HB0:=U (Bl.alloc (Bl.alloc (aB w.heap.size w) (.cells cx.toArray 30)) (.cells #[.slice none 0 0,.int .i64 0,.int .i64 0,.int .i64 0,.int .i64 0,.int .i64 0,.int .i64 0,.slice none 0 0,.slice none 0 0] 30));have hz0':((w.alloc (.cells cx.toArray 30)).alloc (.cells #[.slice none 0 0,.int .i64 0,.int .i64 0,.int .i64 0,.int .i64 0,.int .i64 0,.int .i64 0,.slice none 0 0,.slice none 0 0] 30)).heap.size=w.heap.size+2:=aj;have HZ0:=U hz0';clear hz0';generalize (w.alloc (.cells cx.toArray 30)).alloc (.cells #[.slice none 0 0,.int .i64 0,.int .i64 0,.int .i64 0,.int .i64 0,.int .i64 0,.int .i64 0,.slice none 0 0,.slice none 0 0] 30)=w0 at *;refine⟨?_⟩;have yJ:=U (Cx.whole bg.o)
 go_wp2_with (first|(refine dh bK rfl yJ.o bE.o ?_)|(refine xA bK rfl rfl rfl rfl bE.o Aj.o ?_)|(with_reducible_and_instances refine dI 17 ?_))
 have hbl:=Bl.alloc (aB w0.heap.size w0) (.cells cx.toArray 30);have aU:=U (Bx.new (W:=w0) (t:=30) (vs:=cx) HZ0.o);have bg:=U (bg.o.next hbl);have aX:=U (aX.o.next hbl);have HB1:=U (Bl.call HB0.o hbl);have hz1:w.heap.size+3≤(w0.alloc (.cells cx.toArray 30)).heap.size:=by rw[fH,HZ0.o];omega
 rw[HZ0.o];clear hbl HB0 yJ HZ0;generalize w0.alloc (.cells cx.toArray 30)=w1 at *;refine⟨?_⟩;have c0:w1.cell? ⟨w.heap.size,0,none⟩=some va:=(bg.o.cell 0).trans Wu;have f0:=bg.o.free 0;have l5:=bg.o.lt;have hvo:va.oneCell'=true:=Aj.o va (by rw[jV.o];simp[dm]);go_wp2_with fail;refine(arL va x.stas w1 (λq=>q<w.heap.size) (Shape.below FI.o HB1.o) (by have:=Nn.o;omega)).mono ?_;rintro e w2 ⟨v0,rfl,hO,hb2⟩;obtain⟨a0,k0,rfl⟩:=hO.slice;rw[Nn.o]at hO ⊢;have HO:=U hO;have aU:=U (aU.o.next hb2);have bg:=U (bg.o.next hb2);have aX:=U (aX.o.next hb2);have HB2:=U (Bl.call HB1.o hb2);have avb:=hb2.size;clear c0 f0 l5 hvo hb2 HB1 hO;have f0:=aU.o.free 0;have l5:=aU.o.lt;have c0:w2.cell? ⟨w.heap.size+2,0,none⟩=some va:=(aU.o.cell 0).trans Wu;have i0:0<cx.length:=Jh;have FM:=U (aU.o.set 0 (.slice a0 ns k0) i0);go_wp2_with (with_reducible_and_instances refine dI 23 ?_)
 have aex:=Bl.setCell HB2.o (p:=⟨w.heap.size+2,0,none⟩) aj (.slice a0 ns k0);have qE:=U (bg.o.far (p:=⟨w.heap.size+2,0,none⟩) aj (.slice a0 ns k0));have Cr:=U (aX.o.far (p:=⟨w.heap.size+2,0,none⟩) aj (.slice a0 ns k0))
 have yO:=U ((HO.o.mono (A':=λq=>(q<w2.heap.size∧¬(w.heap.size≤q∧q<w.heap.size+3))) λq hq h=>⟨hq,ae⟩).keep (w':=w2.setCell ⟨w.heap.size+2,0,none⟩ (.slice a0 ns k0)) ((Same.setCell _ _ _).mono λq h=>by
  rcases h with h|h
  ·intro e;have:=h.2;dsimp only at e;omega
  ·have:=(HO.o.lt q h.symm).1;show q≠w.heap.size+2
   omega))
 have hs3:(w2.setCell ⟨w.heap.size+2,0,none⟩ (.slice a0 ns k0)).heap.size=w2.heap.size:=aj;have HB3:=U aex;have D5:=U hs3;clear hs3 aex aU bg aX HB2 HO c0 f0 l5;obtain⟨u,hu⟩:∃u,Hid (w2.setCell ⟨w.heap.size+2,0,none⟩ (.slice a0 ns k0)=u):=⟨_,U rfl⟩;rw[hu.o]at FM qE Cr yO HB3 D5;rw[hu.o];refine⟨?_⟩;have d0:u.cell? ⟨w.heap.size+2,0,none⟩=some (.slice a0 ns k0):=(FM.o.cell 0).trans (yU i0);have e0:=FM.o.lt;have gq:=U (And.intro qE.o (And.intro Cr.o FM.o));rw[←D5.o]at yO;have hsu:=D5.o;clear FM qE Cr hu D5 i0;go_wp2_with fail;clear d0 e0
 go_loopw [27] (λzH wr=>∃k:Nat,k≤ns∧zH=.int .i64 k∧Hid (Own Shape.sta (λq=>q<wr.heap.size∧¬(w.heap.size≤q∧q<w.heap.size+3)) wr w1.heap.size 85 (.slice a0 ns k0) x.stas)∧Hid (BL w wr)∧Hid (Bx w.heap.size cx wr∧Bx (w.heap.size+1) [.slice none 0 0,.int .i64 0,.int .i64 0,.int .i64 0,.int .i64 0,.int .i64 0,.int .i64 0,.slice none 0 0,.slice none 0 0] wr∧Bx (w.heap.size+2) (cx.set 0 (.slice a0 ns k0)) wr)) (λzH _=>ns-(intOf zH).toNat)
 case atStart=>exact⟨0,ae,rfl,yO,HB3,gq⟩
 case round=>
  clear yO HB3 gq hsu;obtain⟨k,hk,rfl,yO,HB,gq⟩:=hrel;have i0:0<cx.length:=Jh;have d0:wr.cell? ⟨w.heap.size+2,0,none⟩=some (.slice a0 ns k0):=(gq.o.2.2.cell 0).trans (yU i0);have dl:=gq.o.2.2.lt;by_cases hlt:k<ns
  ·have lT:k<x.stas.length:=by have:=Nn.o;omega
   obtain⟨gg,cc,cs,e1,hgb,hgl,hgc,hgm,hrd,hcl,hfz,-⟩:=yO.o.slot lT;rw[Nn.o]at e1;cases e1;obtain⟨vh,rfl,xg⟩:=BD.1 hrd;obtain⟨S,hS⟩:∃S,Hid (x.stas[k]=S):=⟨_,U rfl⟩;rw[hS.o]at xg hcl;have q0:=hcl 0 aW;have q1:=hcl 1 aW;have q2:=hcl 2 aW;have q3:=hcl 3 aW;simp only[show Shape.sta.n=4 from rfl,aK,bB,oI]at q0 q1 q2 q3;have i1:(0:Int)≤(k:Int):=ae;have i2:(k:Int)<ns:=ae;have Mo:=U xg
   have hSl:S.2.2.2.length≤16:=by
    have h1:=(Sq (x:=x) dO.o.sta lT).2.2.2;rw[Sn lT,hS.o]at h1;unfold pR at h1;simp only[bW,dG]at h1;exact h1.1.2
   obtain⟨ah,ch,rfl,_,_⟩:=(Shape.list_far xg).shape;clear xg hrd hcl;go_wp2_with fail;have bD:=U (Bx.new (W:=wr) (t:=85) (vs:=[.int .i64 S.1,.int .i64 S.2.1,.int .i64 S.2.2.1,.slice ah S.2.2.2.length ch]) rfl);have dQ:=Bl.alloc (aB wr.heap.size wr) (.cells #[S.1,S.2.1,S.2.2.1,.slice ah S.2.2.2.length ch] 85);generalize wr.alloc (.cells #[S.1,S.2.1,S.2.2.1,.slice ah S.2.2.2.length ch] 85)=wa at *;have kN:=U dQ;have da:=(dQ.cell (p:=⟨w.heap.size+2,0,none⟩) dl).trans d0;have x73:=bD.o.cell 3;have l7:=bD.o.lt;simp only[aK,bB]at x73;have hla:w.heap.size+2<wa.heap.size:=ae;have hga:gg<wa.heap.size:=ae;clear dQ d0 q0 q1 q2 q3;refine iQ [9] [6,9] 1 [] [(1,[0,1,2,3,4,5],6),(0,[7,8],9)] [] [] [(1,[_,_,_,_,_,_],6,_),(0,[_,_],9,_)] [] ?_;refine aH (ku ?_)
   (repeat(go_big_quiet_step (fail)));refine aH ?_
   intro wb hb2;go_wp2_with fail;have cB:=U (Bl.call kN.o hb2);refine(arI _ S.2.2.2 wb (aC.below (Shape.list_far Mo.o) cB.o) ae).mono ?_;rintro e wc ⟨v1,rfl,hO1,hb3⟩;obtain⟨a1,c1,rfl⟩:=bv hO1;go_wp2;refine dZ (Bl.call hb2 hb3) (iP ?_)
   (repeat(go_big_quiet_step (fail)));refine aH ?_
   intro n1;have hsb:=hb2.size;have hsc:=hb3.size;have hbd:BL wr (wc.drewN n1):=Bl.drewN (Bl.call cB.o hb3) n1;have QL:=jB hO1 n1;have hsn:(wc.drewN n1).heap.size=wc.heap.size:=aj;have HOD:=((yO.o.below hbd).mono (A':=λq=>q<wc.heap.size∧¬(w.heap.size≤q∧q<w.heap.size+3)) λq hq h=>⟨ae,h.2⟩);obtain⟨_,_,cs2,e2,-,-,-,-,akb,abo,ajM,hset⟩:=HOD.slot lT;rw[Nn.o]at e2;cases e2;obtain⟨vh2,rfl,akk⟩:=BD.1 akb;rw[hS.o]at akk abo hset;have q3:=abo 3 aW;simp only[show Shape.sta.n=4 from rfl,aK,bB]at q3;have qf:=ajM (k*4+3);have ql:=(cB.o.size);have tQ:=U (hset 3 (.slice a1 S.2.2.2.length c1) S aW (BD.2 ⟨.slice a1 S.2.2.2.length c1,rfl,(Shape.trip.list.mono (Bo jC (e:=117) QL) λq hq h=>⟨⟨ae,ae⟩,?_⟩)⟩))
   ·have tQ:Hid (Own Shape.sta (λq=>q<wc.heap.size∧¬(w.heap.size≤q∧q<w.heap.size+3)) ((wc.drewN n1).setCell ⟨gg,k*4+3,none⟩ (.slice a1 S.2.2.2.length c1)) w1.heap.size 85 (.slice (some ⟨gg,0,none⟩) ns k0) (x.stas.set k S)):=tQ;have GZ:=U (Bl.setCell (Bl.call HB.o hbd) (p:=⟨gg,k*4+3,none⟩) (by show w.heap.size≤gg;have:=HB.o.size;omega) (.slice a1 S.2.2.2.length c1));have HB3:=U (And.intro (((gq.o.1.next hbd)).far (p:=⟨gg,k*4+3,none⟩) (by show gg≠_;omega) (.slice a1 S.2.2.2.length c1)) (And.intro (((gq.o.2.1.next hbd)).far (p:=⟨gg,k*4+3,none⟩) (by show gg≠_;omega) (.slice a1 S.2.2.2.length c1)) (((gq.o.2.2.next hbd)).far (p:=⟨gg,k*4+3,none⟩) (by show gg≠_;omega) (.slice a1 S.2.2.2.length c1))));have FD:Hid (((wc.drewN n1).setCell ⟨gg,k*4+3,none⟩ (.slice a1 S.2.2.2.length c1)).heap.size=wc.heap.size):=U aj;clear hset HOD hbd hsn hO1 QL hb2 hb3 abo ajM akb akk bD x73 l7 hfz;go_wp2;refine bS _ rfl (jl ?_);generalize (wc.drewN n1).setCell ⟨gg,k*4+3,none⟩ (.slice a1 S.2.2.2.length c1)=wz at *;clear q3 qf ql;go_wp2;go_roundw
    case rel=>exact⟨k+1,ae,aY,U (by have h:=tQ.o;rw[show x.stas.set k S=x.stas by rw[←hS.o,List.set_getElem_self]]at h;exact h.mono (A':=λq=>q<wz.heap.size∧¬(w.heap.size≤q∧q<w.heap.size+3)) λq hq hh=>⟨by rw[FD.o];exact hh.1,hh.2⟩),GZ,HB3⟩
    case measure=>exact aFF
   ·intro e;omega
  ·have hkk:k=ns:=ae;subst hkk
   have Mj:=U (Shape.mono _ yO.o.lst (A':=λq=>q<wr.heap.size∧¬(w.heap.size≤q∧q<w.heap.size+3)) λq hq h=>by
    rcases h with h|h
    ·exact h
    ·have:=yO.o.lt q h.symm
     exact⟨hq,ae⟩)
   have h7:(cx.set 0 (.slice a0 k k0))[7]?=some (.slice kD n jI):=ayT;have h8:(cx.set 0 (.slice a0 k k0))[8]?=some (.slice UU nr U1):=ayT;have d7:=(gq.o.2.2.cell 7).trans h7;have d8:=(gq.o.2.2.cell 8).trans h8;have f7:=gq.o.2.2.free 7;have f8:=gq.o.2.2.free 8;have hl9:(cx.set 0 (.slice a0 k k0)).length=9:=by rw[qW];exact bE.o
   have X5:=gq.o.2.2.set 7 (.slice none 0 0) (by rw[hl9];decide);have X5':=X5.set 8 (.slice none 0 0) (by rw[qW,hl9];decide);have X2:=(gq.o.1.far (p:=⟨w.heap.size+2,7,none⟩) aj (.slice none 0 0)).far (p:=⟨w.heap.size+2,8,none⟩) aj (.slice none 0 0);have X4:=(gq.o.2.1.far (p:=⟨w.heap.size+2,7,none⟩) aj (.slice none 0 0)).far (p:=⟨w.heap.size+2,8,none⟩) aj (.slice none 0 0);have GZ:=U (Bl.setCell (Bl.setCell HB.o (p:=⟨w.heap.size+2,7,none⟩) aj (.slice none 0 0)) (p:=⟨w.heap.size+2,8,none⟩) aj (.slice none 0 0));have YW:=U (Shape.keep _ (Shape.keep _ Mj.o ((Same.setCell wr ⟨w.heap.size+2,7,none⟩ (.slice none 0 0)).mono λq h=>by have:=h.2;show q≠w.heap.size+2;omega)) ((Same.setCell (wr.setCell ⟨w.heap.size+2,7,none⟩ (.slice none 0 0)) ⟨w.heap.size+2,8,none⟩ (.slice none 0 0)).mono λq h=>by have:=h.2;show q≠w.heap.size+2;omega));have c7:=(X2.cell 7).trans (by rw[jV.o];rfl:cx[7]?=some (.slice kD n jI));have l2:=X2.lt;have gq:=U (And.intro X2 (And.intro X4 X5'));have JP:Hid (((wr.setCell ⟨w.heap.size+2,7,none⟩ (.slice none 0 0)).setCell ⟨w.heap.size+2,8,none⟩ (.slice none 0 0)).heap.size=wr.heap.size):=U aj;clear X2 X4 X5 X5' Mj yO HB d0 h7 h8 hl9
   go_wp2_with (with_reducible_and_instances refine dI 44 ?_)
   rw[←JP.o]at YW;generalize ((wr.setCell ⟨w.heap.size+2,7,none⟩ (.slice none 0 0)).setCell ⟨w.heap.size+2,8,none⟩ (.slice none 0 0))=w3 at *;clear d7 d8 f7 f8 dl JP;refine⟨?_⟩;go_wp2_with fail;clear c7 l2;have Ps:Hid (∀v,(cx.set 0 (.slice a0 k k0)).set 7 v=dm x (.slice a0 k k0) v (.slice UU nr U1)):=U (λv=>Wu);have gq:Hid (Bx w.heap.size cx w3∧Bx (w.heap.size+1) [.slice none 0 0,.int .i64 0,.int .i64 0,.int .i64 0,.int .i64 0,.int .i64 0,.int .i64 0,.slice none 0 0,.slice none 0 0] w3∧Bx (w.heap.size+2) (dm x (.slice a0 k k0) (.slice none 0 0) (.slice none 0 0)) w3):=U ⟨gq.o.1,gq.o.2.1,by have:=gq.o.2.2;rw[Ps.o]at this;exact this⟩;obtain⟨V0,hV0⟩:∃V,Hid (Value.slice a0 k k0=V):=⟨_,U rfl⟩;rw[hV0.o]at gq YW;have hw3:=gq.o.2.2.lt;clear Ps
   go_loopw [47] (λs47 wr=>∃(k:Nat) (vx:Value),k≤n∧s47=.int .i64 k∧Hid (Own Shape.fil (λq=>q<wr.heap.size∧¬(w.heap.size≤q∧q<w.heap.size+3)) wr w3.heap.size 65 vx (BG p x.sheets k))∧Hid (BL w wr)∧Hid (Bx w.heap.size cx wr∧Bx (w.heap.size+1) [.slice none 0 0,.int .i64 0,.int .i64 0,.int .i64 0,.int .i64 0,.int .i64 0,.int .i64 0,.slice none 0 0,.slice none 0 0] wr∧Bx (w.heap.size+2) (dm x V0 vx (.slice none 0 0)) wr)∧Hid (w3.heap.size≤wr.heap.size∧∀q,q<w3.heap.size→¬(w.heap.size≤q∧q<w.heap.size+3)→wr.heap[q]?=w3.heap[q]?)) (λs47 _=>n-(intOf s47).toNat)
   case atStart=>exact⟨0,_,ae,rfl,U Own.nil,GZ,gq,U ⟨aV _,λ_ _ _=>rfl⟩⟩
   case round=>
    clear GZ gq;obtain⟨k,vx,hk,rfl,DX,HB,gq,HZ⟩:=hrel;by_cases hlt:k<n
    ·have lT:k<x.sheets.length:=iH;obtain⟨b,o,cf,e1,hbl,hF,hC⟩:=CW (HX.o.sheets.below HB.o) lT;subst e1;obtain⟨f,hf⟩:∃f,Hid (x.sheets[k]=f):=⟨_,U rfl⟩;rw[hf.o]at hF;have Tq:Hid (f∈x.sheets):=U (by rw[←hf.o];exact eu lT);have HC:=U hC;have jm:=U hF.len;have ky:=U hF.one;obtain⟨vt,vb,DI,vs',vm,vn,Gj,Vq,hM,hN⟩:=hF;obtain⟨am,cm,rfl,hm1,hm2⟩:=(Shape.list_far hM).shape;obtain⟨an,cn,rfl,hn1,hn2⟩:=(Shape.list_far hN).shape;unfold maxLen at hm2 hn2;have i1:(0:Int)≤(k:Int):=ae;have i2:(k:Int)<(n:Int):=ae;have Yg:=U Gj;have JN:=U Vq;have HM:=U hM;have HN:=U hN;obtain⟨nm,hnm⟩:∃m,Hid (f.marks.length=m):=⟨_,U rfl⟩;obtain⟨nn,hnn⟩:∃m,Hid (f.names.length=m):=⟨_,U rfl⟩;rw[hnm.o]at Yg hm1;rw[hnn.o]at Yg hn1;have vN:=HN.o;rw[hnn.o]at vN;have HN:=U vN;clear vN;have hM2:=HM.o;rw[hnm.o]at hM2;have HM:=U hM2;clear hM2;have hmb:nm≤64:=by have:=ak5 (dO.o.sht Tq.o).marks;have:=hnm.o;omega
     have hnb:nn≤1000000:=by have:=(JK.o f Tq.o).1;have:=hnn.o;omega
     have aD2:=HB.o.size;clear hC Gj Vq hM hN;go_wp2_with (first|(refine dh gH rfl HC.o jm.o ?_)|(refine xA gH rfl rfl rfl rfl jm.o ky.o ?_)|(with_reducible_and_instances refine dI 52 ?_))
     have dQ:=Bl.alloc (aB wr.heap.size wr) (.cells cf.toArray 65);have fF:=U (Bx.new (W:=wr) (t:=65) (vs:=cf) rfl);have A8:(wr.alloc (.cells cf.toArray 65)).heap.size=wr.heap.size+1:=aj;have kN:=U dQ;have JZ:=U A8;clear dQ A8 HC hbl;generalize wr.alloc (.cells cf.toArray 65)=wa at *;obtain⟨b9,dX⟩:∃b,Hid (wr.heap.size=b):=⟨_,U rfl⟩;rw[dX.o]at fF ⊢;refine⟨?_⟩;rw[Yg.o]at fF;have HSP:Hid (((iW f vt vb DI vs' (.slice am nm cm) (.slice an nn cn)).drop 4).take 18=iq f.sheet vt vb DI vs'):=U rfl;have aeM:=U (Cx.part fF.o HSP.o);go_wp2_with (refine dh fZ rfl aeM.o rfl ?_)
     obtain⟨hb1,hb2,hb3⟩:=azQ (dO.o.sht Tq.o);refine(aBz f.sheet _ wa ⟨vt,vb,DI,vs',rfl,nU.keep JN.o (Same.below kN.o)⟩ hb1 (JK.o f Tq.o).2 hb2 hb3).mono ?_;rintro e wc ⟨cs2,ut,ub,ur,us,rfl,e2,hU,hbc⟩;have fF:=U (fF.o.next hbc);have OL:=U (Bl.call kN.o hbc);have HU:=U hU;have HE2:=U e2;have ajI:cs2.length=18:=by rw[e2];rfl
     have hc21:∀u∈cs2,u.oneCell'=true:=by rw[e2];exact Lr (nP hU.1) (nP hU.2.1) (nP hU.2.2.1) (nP hU.2.2.2)
     have tF:=U (And.intro ajI hc21);have hzc:=hbc.size;clear hbc hU e2 ajI hc21 hb1 hb2 hb3 aeM HSP;go_wp2_with (refine SS (B:=b9) (o:=4) fZ rfl rfl fF.o tF.o.1 (P6 rfl) tF.o.2 ?_)
     have fF:Hid (Bx b9 (iW f ut ub ur us (.slice am nm cm) (.slice an nn cn)) (wc.setCells b9 4 cs2)):=U ((fF.o.cells (o:=4) (cs:=cs2) (by rw[tF.o.1];exact P6 rfl)).val (by rw[HE2.o];rfl));have hT:aA (λq=>q=b9) wc (wc.setCells b9 4 cs2):=aA.setCells (own:=λq=>q=b9) rfl cs2 4 wc;have xD:=U (aA.low OL.o hT (λq e=>by have:=dX.o;omega));have HU:=U (nU.keep HU.o (w':=wc.setCells b9 4 cs2) (hT.same λq hq hl e=>ajt));have hzd:(wc.setCells b9 4 cs2).heap.size=wc.heap.size:=size_setCells _ _ _ _;clear tF HE2 OL hT;have aEr:b9<(wc.setCells b9 4 cs2).heap.size:=fF.o.lt;have HZD:=U hzd;have hzn:wa.heap.size≤(wc.setCells b9 4 cs2).heap.size:=ae;clear hzd hzc;generalize wc.setCells b9 4 cs2=wd at *;have y22:wd.cell? ⟨b9,22,none⟩=some (.slice am nm cm):=(fF.o.cell 22).trans rfl;have y23:wd.cell? ⟨b9,23,none⟩=some (.slice an nn cn):=(fF.o.cell 23).trans rfl;refine iQ [] [] 0 [] [] [0,1,2,3,4,5] [] [] [_,_,_,_,_,_] ?_;refine aH (qy ?_)
     (repeat(go_big_quiet_step (fail)));refine aH ?_
     intro n1;have fF:=U (fF.o.drewN n1);have hbd:=Bl.drewN (aB wd.heap.size wd) n1;have HU:=U (nU.keep HU.o (w':=wd.drewN n1) (Same.below hbd));have xD:=U (Bl.call xD.o hbd);have hsd:(wd.drewN n1).heap.size=wd.heap.size:=aj;have hs1:=ME hsd;have avb:=ME hsd.symm;clear y22 y23 hsd hbd;generalize wd.drewN n1=we at *;go_wp2_with fail;refine(arJ _ f.names we (aC.below (Shape.list_far HN.o) xD.o) Nc).mono ?_;rintro e wf ⟨v1,rfl,hO1,hbf⟩;obtain⟨a1,c1,rfl⟩:=bv hO1;have Vo:jd 49 2 (λp:Sp=>[Value.int .i64 p.1,Value.int .i64 p.2]) we.heap.size wf (.slice a1 f.names.length c1) f.names:=hO1;rw[hnn.o]at Vo ⊢;have fF:=U (fF.o.next hbf);have DR:=Bl.call xD.o hbf;have HUF:=nU.keep HU.o (w':=wf) (Same.below hbf);have Re:=hbf.size;have y22:wf.cell? ⟨b9,22,none⟩=some (.slice am nm cm):=(fF.o.cell 22).trans rfl;have y23:wf.cell? ⟨b9,23,none⟩=some (.slice an nn cn):=(fF.o.cell 23).trans rfl;have yf2:=fF.o.free 22;have yf3:=fF.o.free 23;have yl:=fF.o.lt;have X9a:=(fF.o.set 22 (.slice none 0 0) (P6 rfl)).set 23 (.slice a1 nn c1) (P6 rfl)
     have hT:=(aA.setCell (λq=>q=b9) wf ⟨b9,22,none⟩ (.slice none 0 0) rfl).trans (aA.setCell (λq=>q=b9) (wf.setCell ⟨b9,22,none⟩ (.slice none 0 0)) ⟨b9,23,none⟩ (.slice a1 nn c1) rfl);have hO2:=fO Vo hT (λq hq e=>by have:=(Vo.lt q hq).1;omega);have hzg:((wf.setCell ⟨b9,22,none⟩ (.slice none 0 0)).setCell ⟨b9,23,none⟩ (.slice a1 nn c1)).heap.size=wf.heap.size:=aj;have Pp:=nU.keep HUF (hT.same λq hq hl e=>ajt);have OM:=aA.low DR hT (λq e=>by have:=dX.o;omega);have HG:=U (And.intro (X9a.val (rfl:_=iW f ut ub ur us (.slice none 0 0) (.slice a1 nn c1))) (And.intro hO2 (And.intro Pp OM)));have aEs:=ME hzg;have aEt:=ME hzg.symm;clear hO1 Vo DR HUF X9a hT hO2 hzg Pp OM hbf;go_wp2_with (with_reducible_and_instances refine dI 65 ?_)
     generalize ((wf.setCell ⟨b9,22,none⟩ (.slice none 0 0)).setCell ⟨b9,23,none⟩ (.slice a1 nn c1))=wg at *;refine⟨?_⟩;clear y22 y23 yf2 yf3 yl;have hbg:b9<wg.heap.size:=HG.o.1.lt;by_cases heq:nn=nm
     focus
      have qR:=U heq;have q1:((nn:Int)==(nm:Int))=true:=by simp[heq]
      clear heq;have y23:=(HG.o.1.cell 23);have yf3:=HG.o.1.free 23;have aCt:wg.cell? ⟨b9,23,none⟩=some (.slice a1 nn c1):=y23.trans rfl;have X9b:=(HG.o.1.set 23 (.slice none 0 0) (P6 rfl)).val (rfl:_=iW f ut ub ur us (.slice none 0 0) (.slice none 0 0));have hT:=aA.setCell (λq=>q=b9) wg ⟨b9,23,none⟩ (.slice none 0 0) rfl;have Pp:=nU.keep HG.o.2.2.1 (hT.same λq hq hl e=>ajt);have OM:=aA.low HG.o.2.2.2 hT (λq e=>by have:=dX.o;omega);clear y23;go_wp2_with (with_reducible_and_instances refine dI 71 ?_)
      have Fp:Hid (∃mZ,Bx b9 (iW f ut ub ur us (.slice none 0 0) mZ) (wg.setCell ⟨b9,23,none⟩ (.slice none 0 0))∧jd 49 2 (λp:Sp=>[Value.int .i64 p.1,Value.int .i64 p.2]) wa.heap.size (wg.setCell ⟨b9,23,none⟩ (.slice none 0 0)) mZ (if nn=nm then []else f.names)∧(nn=nm→mZ=.slice none 0 0)):=U ⟨_,X9b,Di (by rw[aG qR.o]),λ_=>rfl⟩;have Mm:=U (And.intro Pp OM);have hsz:wg.heap.size≤(wg.setCell ⟨b9,23,none⟩ (.slice none 0 0)).heap.size:=aj;clear aCt yf3 X9b hT Pp OM HG q1 qR;generalize (wg.setCell ⟨b9,23,none⟩ (.slice none 0 0))=wk at *
     rotate_left
     focus
      have qR:=U heq;have q1:((nn:Int)==(nm:Int))=false:=bC;clear heq;go_wp2_with (with_reducible_and_instances refine dI 71 ?_)
      have Fp:Hid (∃mZ,Bx b9 (iW f ut ub ur us (.slice none 0 0) mZ) wg∧jd 49 2 (λp:Sp=>[Value.int .i64 p.1,Value.int .i64 p.2]) wa.heap.size wg mZ (if nn=nm then []else f.names)∧(nn=nm→mZ=.slice none 0 0)):=U ⟨_,HG.o.1,by rw[aD qR.o];exact EP (e:=49) HG.o.2.1 ae,λh=>absurd h qR.o⟩;have Mm:=U HG.o.2.2;clear HG;obtain⟨wk,hw4⟩:∃u,u=wg:=⟨_,rfl⟩;rw[←hw4]at Fp Mm ⊢;have hsz:wg.heap.size≤wk.heap.size:=by rw[hw4];exact aV _
      clear hw4 q1 qR
     all_goals
      refine⟨?_⟩;obtain⟨wo,hwo⟩:∃u,u=wr:=⟨wr,rfl⟩;subst hwo;obtain⟨mZ,hX9,hON,ED⟩:=Fp.o;have fF:=U hX9;have ky:=U hON;have HVN:=U ED;clear hX9 hON ED Fp;go_wp2
      go_loopw [72] (λs72 wi=>∃(m:Nat) (Jt mZ:Value),m≤nm∧s72=.int .i64 m∧Hid (Bx b9 (iW f ut ub ur us Jt mZ) wi)∧Hid (qF 45 wk.heap.size wi Jt (nO (λj=>p (1,((k:Int),(j:Int)))) f.marks m))∧Hid (jd 49 2 (λp:Sp=>[Value.int .i64 p.1,Value.int .i64 p.2]) wa.heap.size wi mZ (if nn=nm then nO (λj=>p (1,((k:Int),(j:Int)))) f.names m else f.names))∧Hid ((∀q,Jt.ownBlock=some q→mZ.ownBlock≠some q)∧(nn=nm→∀q,mZ.ownBlock=some q→wk.heap.size≤q))∧Hid (BL wo wi)∧Hid (wk.heap.size≤wi.heap.size∧∀q,q<wk.heap.size→q≠b9→wi.heap[q]?=wk.heap[q]?)) (λs72 _=>nm-(intOf s72).toNat)
      case atStart=>exact⟨0,_,mZ,ae,rfl,fF,U (Di (VW _ _)),U (by rw[VW];exact ky.o),U ⟨(λq h=>ze),(λh q hq=>by rw[HVN.o h]at hq;cases hq)⟩,U Mm.o.2,U ⟨aV _,λ_ _ _=>rfl⟩⟩
      case round=>
       obtain⟨m,Jt,mZ,hm,rfl,D9,xL,ky,HD,pF,HK⟩:=hrel;by_cases hlm:m<nm
       ·have Q5:m<f.marks.length:=by have:=hnm.o;omega
        obtain⟨bm,om,csm,e3,hbl,hrd,hcl⟩:=aC.at (aC.below (Shape.list_far HM.o) pF.o) Q5;subst e3;obtain⟨M,hM⟩:∃M,Hid (f.marks[m]=M):=⟨_,U rfl⟩;rw[hM.o]at hrd;have uB:=jC.1 hrd;subst uB;have d0:=hcl 0 aW;have d1:=hcl 1 aW;have d2:=hcl 2 aW;simp only[show Shape.trip.n=3 from rfl,aK,bB,oI]at d0 d1 d2;have j1:(0:Int)≤(m:Int):=ae;have j2:(m:Int)<nm:=ae;clear hcl hrd;go_wp2_with fail;have wO:=U (Bx.new (W:=wr) (t:=45) (vs:=[.int .i64 M.1,.int .i64 M.2.1,.int .i64 M.2.2]) rfl);have dQ:=Bl.alloc (aB wr.heap.size wr) (.cells #[M.1,M.2.1,M.2.2] 45);have vQ:(wr.alloc (.cells #[M.1,M.2.1,M.2.2] 45)).heap.size=wr.heap.size+1:=aj;generalize wr.alloc (.cells #[M.1,M.2.1,M.2.2] 45)=wq at *;clear d0 d1 d2;refine(HP.o wq (1,((k:Int),(m:Int))) (Bl.call HB.o (Bl.call pF.o dQ))).mono ?_;rintro e w6 ⟨rfl,hb6⟩;have vR:=hb6.size;have dD:=U (Bl.call dQ hb6);have D9:=U (D9.o.next dD.o);have wO:=U (wO.o.next hb6);have xL:=U (il xL.o dD.o);have ky:=U (il ky.o dD.o);have JH:=U (Bl.call pF.o dD.o);have xI:Hid (wk.heap.size≤w6.heap.size∧∀q,q<wk.heap.size→q≠b9→w6.heap[q]?=wk.heap[q]?):=U ⟨by have:=HK.o.1;omega,λq h1 h2=>(dD.o.block q (by have:=HK.o.1;omega)).trans (HK.o.2 q h1 h2)⟩
        obtain⟨qb,uH⟩:∃b,Hid (p (1,((k:Int),(m:Int)))=b):=⟨_,U rfl⟩;rw[uH.o];clear dQ hb6
        cases qb with
        |true=>
         go_wp2;go_roundw
         case rel=>exact⟨m+1,Jt,mZ,ae,aY,D9,U (by rw[abT (q:=λj=>p (1,((k:Int),(j:Int)))) _ uH.o];exact xL.o),U (by rw[abT (q:=λj=>p (1,((k:Int),(j:Int)))) _ uH.o];exact ky.o),HD,JH,xI⟩
         case measure=>exact aFF
        |false=>
         obtain⟨a8,c8,rfl⟩:=lu xL.o;obtain⟨N,hN⟩:∃N,Hid ((nO (λj=>p (1,((k:Int),(j:Int)))) f.marks m).length=N):=⟨_,U rfl⟩;have gM:=xL.o;unfold jd at gM;rw[hN.o]at gM D9 HD;have hNm:N≤m:=by have:=Rn (λj=>p (1,((k:Int),(j:Int)))) f.marks m;have:=hN.o;omega
         have kP:=U gM;have L9:=U (VV (q:=λj=>p (1,((k:Int),(j:Int)))) Q5 uH.o);rw[hM.o]at L9;have p0:=wO.o.cell 0;have p1:=wO.o.cell 1;have p2:=wO.o.cell 2;have pl:=wO.o.lt;simp only[aK,bB]at p0 p1 p2;have y22:w6.cell? ⟨b9,22,none⟩=some (.slice a8 N c8):=(D9.o.cell 22).trans rfl;have y9:=D9.o.lt;have hk4:b9<wk.heap.size:=by have:=hbg;have:=hsz;omega
         have aD6:=xI.o.1;clear gM;by_cases heq:nn=nm
         ·have qR:=U heq;have q1:((nn:Int)==(nm:Int))=true:=by simp[heq]
          clear heq;obtain⟨i0,hi,hz0,hz1,hz2⟩:=dY abN;go_wp2_with (at_builtin;go_loud (refine iE (kP.o.alloc _) ⟨w6.heap.size,0,none⟩ 1 1 [M.1,M.2.1,M.2.2] hi hz0 hz1 hz2 ?_);intro v8 w8 eB yx C9;obtain⟨jw,c10,rfl⟩:=bv eB;have BQ:=U (Ep (c:=22) D9.o (aB _ _) kP.o eB yx C9 hk4 rfl);obtain⟨Gv,LP⟩:=BQ.o.1)
          obtain⟨hx5,jX,t5,s5⟩:=BQ.o.2 0;have Mt:Hid (Bx b9 (iW f ut ub ur us (.slice jw (N+1) c10) mZ) (w8.setCell ⟨b9,22,none⟩ (.slice jw (N+1) c10))):=U (Bx.val hx5 rfl);have Hw:Hid ((w8.setCell ⟨b9,22,none⟩ (.slice jw (N+1) c10)).ownsRow wk.heap.size 45 3 (.slice jw (N+1) c10) (N+1) ((nO (λj=>p (1,((k:Int),(j:Int)))) f.marks m).flatMap CV++[.int .i64 M.1,.int .i64 M.2.1,.int .i64 M.2.2])):=U jX;have wR:Hid (aA (λq=>q=b9∨some q=(Value.slice a8 N c8).ownBlock) w6 (w8.setCell ⟨b9,22,none⟩ (.slice jw (N+1) c10))):=U t5;have Zf:=U s5;clear hx5 jX t5 s5 BQ Gv LP eB yx C9 p0 p1 p2 pl y22 y9;generalize w8.setCell ⟨b9,22,none⟩ (.slice jw (N+1) c10)=wz at *;have hzz:=wR.o.size;have Ak:Hid (∀q,mZ.ownBlock=some q→q<w6.heap.size):=U (λq hq=>(ky.o.lt q hq).2);have hmN:m<f.names.length:=by have:=hnn.o;have:=qR.o;omega
          have Tu:=U (VV (q:=λj=>p (1,((k:Int),(j:Int)))) hmN uH.o);obtain⟨NM,hNM⟩:∃M,Hid (f.names[m]=M):=⟨_,U rfl⟩;rw[hNM.o]at Tu
          have ky:Hid (jd 49 2 (λp:Sp=>[Value.int .i64 p.1,Value.int .i64 p.2]) wk.heap.size wz mZ (nO (λj=>p (1,((k:Int),(j:Int)))) f.names m)):=U (by
           have h1:=ky.o;rw[aG qR.o]at h1
           have h2:=fO h1 wR.o (λq hq e=>by
            rcases e with e|e
            ·have:=(h1.lt q hq).1;have:=dX.o;have:=JZ.o;omega
            ·exact HD.o.1 q e.symm hq)
           refine⟨h2.1,?_⟩;rcases h2.2 with hn|⟨g,cap,cur,e,_,rest⟩
           ·exact .inl hn
           ·refine .inr ⟨g,cap,cur,e,?_,rest⟩
            exact HD.o.2 qR.o g (by rw[e];rfl))
          obtain⟨avn,cvn,rfl⟩:=lu ky.o;obtain⟨N2,vN⟩:∃N,Hid ((nO (λj=>p (1,((k:Int),(j:Int)))) f.names m).length=N):=⟨_,U rfl⟩;have aDf:N2≤m:=by have:=Rn (λj=>p (1,((k:Int),(j:Int)))) f.names m;have:=vN.o;omega
          have gM:=ky.o;unfold jd at gM;rw[vN.o]at gM Mt HD Ak;have HO:=U gM;have HX:=Mt;clear gM ky;obtain⟨bn,on,csn,e4,hbn,hrn,hcn⟩:=aC.at (aC.below (Shape.list_far HN.o) (aA.low (Bl.call JH.o (aB _ w6)) wR.o (λq e=>by rcases e with e|e;have:=dX.o;omega;have:=(kP.o.lt q e.symm).1;have:=hsz;have:=dX.o;have:=Mm.o.2.size;omega))) hmN;rw[hNM.o]at hrn;have ecn:=mE.1 hrn;subst ecn;have g0:=hcn 0 aW;have g1:=hcn 1 aW;simp only[show Shape.span.n=2 from rfl,aK,bB,oI]at g0 g1;clear i0 hi hz0 hz1 hz2;obtain⟨i0,hi,hz0,hz1,hz2⟩:=dY aku;have j3:(m:Int)<nn:=by have:=qR.o;omega
          have yG:wz.cell? ⟨b9,23,none⟩=some (.slice avn N2 cvn):=(HX.o.cell 23).trans rfl;have l9:=HX.o.lt;subst e4;clear hrn hcn;have hwz:=Hw.o;refine iQ [7,9] [6,7,9] 1 [] [(0,[0,1,2,3,4,5],6),(1,[],7),(0,[8],9)] [] [] [(0,[_,_,_,_,_,_],6,_),(1,[],7,_),(0,[_],9,_)] [] ?_
          (repeat(go_big_quiet_step (first|fail)));refine aH (ku ?_)
          (repeat(first|(go_big_quiet_want;(first|apply bH eH bK rfl|apply bH eU bK rfl|apply bH eH gH rfl|apply bH eU gH rfl|apply bH eH fZ rfl|apply bH eU fZ rfl|apply bH eH mV rfl|apply bH eU mV rfl);(focus exact AU);(focus exact rfl);go_big_quiet_op;go_big_quiet_on)|go_big_quiet_step (fail)));refine aH ?_
          intro w2 hb2;have bL:=U (gV HO.o hb2);have hsz2:=hb2.size;go_wp2;refine dZ (Bl.alloc hb2 _) (rW ?_);go_wp2_with (at_builtin;go_loud (refine iE (bL.o.alloc _) ⟨w2.heap.size,0,none⟩ 1 1 [NM.1,NM.2] hi hz0 hz1 hz2 ?_);intro v5 w4 hown' hgrow bY;obtain⟨a9,c9,rfl⟩:=bv hown')
          refine bS _ rfl (iP ?_);have HF:=U (Ep (c:=23) HX.o hb2 HO.o hown' hgrow bY hk4 rfl);obtain⟨zF,zR⟩:=HF.o.1
          (repeat(go_big_quiet_step (fail)));refine aH ?_
          intro nq;go_wp2;refine bS _ rfl (jl ?_);obtain⟨hx5,jX,t5,s5⟩:=HF.o.2 nq;have aU:=U hx5;have iA:=U jX;have T5:=U t5;have S5:=U s5;clear hx5 jX t5 s5 HF zF zR hgrow bY bL hown' hb2 hsz2;go_wp2;go_roundw
          case rel=>
           have hbO:∀q,(Value.slice jw (N+1) c10).ownBlock=some q→q≠b9∧some q≠(Value.slice avn N2 cvn).ownBlock:=λq hq=>by
            have h1:=(Hw.o.lt q hq).1;refine⟨ae,λe=>?_⟩;rcases Zf.o with h|⟨k2,h,hk2⟩
            ·exact HD.o.1 q (by rw[←h];exact hq) e.symm
            ·rw[hq]at h;cases h;have:=Ak.o q e.symm;omega
           have yu:=T5.o;refine⟨m+1,.slice jw (N+1) c10,.slice a9 (N2+1) c9,ae,aY,U (Bx.val aU.o rfl),U ?_,U ?_,U ⟨λq hq hq2=>?_,λ_ q hq=>(iA.o.lt q hq).1⟩,U ?_,U ⟨?_,?_⟩⟩
           ·rw[L9.o];exact xk (e:=45) (enc:=CV) (fO Hw.o yu (λq hq e=>by rcases e with e|e;exact(hbO q hq).1 e;exact(hbO q hq).2 e)) RY rfl
           ·rw[aG qR.o,Tu.o];exact EP (e:=49) (xk (e:=49) (enc:=λp:Sp=>[Value.int .i64 p.1,Value.int .i64 p.2]) iA.o (by rw[vN.o]) rfl) (by have:=Mm.o.2.size;have:=dX.o;have:=JZ.o;omega)
           ·rcases S5.o with h|⟨k2,h,hk2⟩
            ·exact(hbO q hq).2 (by rw[←h];exact hq2.symm)
            ·rw[hq2]at h;cases h;have:=(Hw.o.lt q hq).2;omega
           ·exact aA.low (aA.low JH.o wR.o (λq e=>aym)) yu (λq e=>by rcases e with e|e;have:=dX.o;omega;have:=(HO.o.lt q e.symm).1;have:=dX.o;omega)
           ·have:=xI.o.1;have:=yu.size;omega
           ·intro q h1 h2;refine(yu.block q Vw (λe=>?_)).trans ((wR.o.block q Vw (λe=>?_)).trans (xI.o.2 q h1 h2))
            ·rcases e with e|e
             ·exact h2 e
             ·have:=(HO.o.lt q e.symm).1;omega
            ·rcases e with e|e
             ·exact h2 e
             ·exact aFp
          case measure=>exact aFF
         ·have qR:=U heq;have q1:((nn:Int)==(nm:Int))=false:=bC;clear heq;obtain⟨i0,hi,hz0,hz1,hz2⟩:=dY abN;go_wp2_with (at_builtin;go_loud (refine iE (kP.o.alloc _) ⟨w6.heap.size,0,none⟩ 1 1 [M.1,M.2.1,M.2.2] hi hz0 hz1 hz2 ?_);intro v8 w8 eB yx C9;obtain⟨jw,c10,rfl⟩:=bv eB;have BQ:=U (Ep (c:=22) D9.o (aB _ _) kP.o eB yx C9 hk4 rfl);obtain⟨Gv,LP⟩:=BQ.o.1)
          obtain⟨hx5,jX,t5,s5⟩:=BQ.o.2 0;have Mt:Hid (Bx b9 (iW f ut ub ur us (.slice jw (N+1) c10) mZ) (w8.setCell ⟨b9,22,none⟩ (.slice jw (N+1) c10))):=U (Bx.val hx5 rfl);have Hw:Hid ((w8.setCell ⟨b9,22,none⟩ (.slice jw (N+1) c10)).ownsRow wk.heap.size 45 3 (.slice jw (N+1) c10) (N+1) ((nO (λj=>p (1,((k:Int),(j:Int)))) f.marks m).flatMap CV++[.int .i64 M.1,.int .i64 M.2.1,.int .i64 M.2.2])):=U jX;have wR:Hid (aA (λq=>q=b9∨some q=(Value.slice a8 N c8).ownBlock) w6 (w8.setCell ⟨b9,22,none⟩ (.slice jw (N+1) c10))):=U t5;have Zf:=U s5;clear hx5 jX t5 s5 BQ Gv LP eB yx C9 p0 p1 p2 pl y22 y9;generalize w8.setCell ⟨b9,22,none⟩ (.slice jw (N+1) c10)=wz at *;go_roundw
          case rel=>
           refine⟨m+1,.slice jw (N+1) c10,mZ,ae,aY,Mt,U ?_,U ?_,U ⟨λq hq hq2=>?_,λh=>absurd h qR.o⟩,U ?_,U ⟨?_,?_⟩⟩
           ·rw[L9.o];exact xk (e:=45) (enc:=CV) Hw.o RY rfl
           ·have h1:=ky.o;rw[aD qR.o]at h1 ⊢
            exact fO h1 wR.o (λq hq e=>by
             rcases e with e|e
             ·have:=(h1.lt q hq).1;have:=dX.o;have:=JZ.o;omega
             ·exact HD.o.1 q e.symm hq)
           ·rcases Zf.o with h|⟨k2,h,hk2⟩
            ·exact HD.o.1 q (by rw[←h];exact hq) hq2
            ·rw[hq]at h;cases h;have:=(ky.o.lt q hq2).2;omega
           ·exact aA.low JH.o wR.o (λq e=>aym)
           ·have:=xI.o.1;have:=wR.o.size;omega
           ·intro q h1 h2;refine(wR.o.block q Vw (λe=>?_)).trans (xI.o.2 q h1 h2);rcases e with e|e
            ·exact h2 e
            ·exact aFp
          case measure=>exact aFF
       ·have hmm:m=nm:=ae;subst hmm;have aDm:=dX.o;have hza:=JZ.o
        have DW:Hid (Shape.fil.reads (λq=>b9<q) wr (iW f ut ub ur us Jt mZ) (GQ p k f)):=U (by
         refine⟨ut,ub,ur,us,Jt,mZ,rfl,?_,?_,?_⟩
         ·have h1:=nU.mono Mm.o.1 (A':=λq=>b9<q∧q<wk.heap.size) λq hq h=>⟨ae,hq⟩;exact nU.mono (nU.keep h1 ⟨HK.o.1,λq h hq=>HK.o.2 q hq Vy⟩) λq _ h=>h.1
         ·have h1:=Bo jC (e:=45) xL.o;rw[←hnm.o]at h1;exact Shape.mono _ h1 λq _ h=>by have:=hbg;have:=hsz;omega
         ·have h1:=Bo mE (e:=49) ky.o;rw[←hnm.o,←hnn.o]at h1
          exact Shape.mono _ h1 λq _ h=>ae)
        obtain⟨FC,hFC⟩:∃F,Hid (iW f ut ub ur us Jt mZ=F):=⟨_,U rfl⟩;rw[hFC.o]at DW D9;have nD:Hid (FC.length=24):=U (by rw[←hFC.o];rfl);have Yh:Hid (∀u∈FC,u.oneCell'=true):=U (nW.one (w:=wr) (f:=GQ p k f) (Shape.mono _ DW.o λ_ _ _=>trivial));have Tk:=U (Cx.whole D9.o);have aU:=U (gq.o.2.2.next pF.o);obtain⟨jw,c10,rfl⟩:=DX.o.slice;rw[Xl p x.sheets ae]at aU DX;have y7:=(aU.o.cell 7).trans (rfl:_=some (Value.slice jw k c10));have y5:=aU.o.lt;have HOA:=U (((DX.o.below pF.o).mono (A':=λq=>q<wr.heap.size∧¬(w.heap.size≤q∧q<w.heap.size+3)) λq hq h=>⟨hq,h.2⟩).below (Bl.alloc (aB wr.heap.size wr) (.cells FC.toArray 65)));obtain⟨jI,hcx,happ⟩:=K7 HOA.o;have OU:=U hcx;have XL:=U happ;rw[Xl p x.sheets ae]at OU XL;have hzs:=HZ.o.1;have KO:=pF.o.size;have hwz:=gq.o.2.2.lt;obtain⟨i0,hi,hz0,hz1',hz2⟩:=dY abM;clear hcx happ;go_wp2_with (first|(refine dh gH rfl Tk.o nD.o ?_)|(with_reducible_and_instances refine dI 106 ?_))
        refine⟨?_⟩;refine aB3 (awK nD.o) rfl ?_;go_wp2_with (at_builtin;go_loud (refine Xq _ rfl _ _ 27 rfl w3.heap.size 65 i0 (.agg #[.int .i64 0,.int .i64 0,.int .i64 0,.int .i64 0,.int .i64 0,.int .i64 0,.int .i64 0,.int .i64 0,.int .i64 0,.int .i64 0,.int .i64 0,.int .i64 0,.int .i64 0,.int .i64 0,.slice none 0 0,.slice none 0 0,.slice none 0 0,.slice none 0 0,.int .i64 0,.int .i64 0,.int .i64 0,.int .i64 0,.slice none 0 0,.slice none 0 0]) 24 288 underlying27 hi hz0 hz1' hz2 rfl aW _ _ _ rfl OU.o ⟨wr.heap.size,0,none⟩ 1 1 FC rfl (by rw[nD.o]) (AP _ _ _) Yh.o lD ae bC ?_);intro v8 w8 eB yx C9;obtain⟨oN,c11,rfl⟩:=bv eB;have qD:=U ((aU.o.alloc (.cells FC.toArray 65)).grown yx (λe=>by have:=(OU.o.lt _ e.symm).1;omega));have Gv:=qD.o.cell 7;have LP:=qD.o.free 7;have zl8:=qD.o.lt;replace Gv:w8.cell? ⟨w.heap.size+2,7,none⟩=some (.slice jw k c10):=Gv)
        have Pv:=qD.o.set 7 (.slice oN (k+1) c11) (P6 rfl);have hT1:aA (λq=>some q=(Value.slice jw k c10).ownBlock) wr w8:=(aA.alloc _ wr (.cells FC.toArray 65)).trans (aA.grown yx λq e=>e.symm);have yu:=aA.setCell (λq=>q=w.heap.size+2) w8 ⟨w.heap.size+2,7,none⟩ (.slice oN (k+1) c11) rfl;have hs8:=yx.size;simp only[fH]at hs8;have hvl:∀q,some q=(Value.slice jw k c10).ownBlock→w3.heap.size≤q:=λq e=>(OU.o.lt q e.symm).1;have ig:=XL.o w8 (.slice oN (k+1) c11) (GQ p k f) FC (Shape.mono _ (Shape.keep _ (Shape.mono _ DW.o (A':=λq=>b9<q∧q<wr.heap.size) λq hq h=>⟨h,hq⟩) (Same.below (Bl.alloc (aB wr.heap.size wr) (.cells FC.toArray 65)))) λq hq h=>⟨⟨h.2,Vy⟩,λe=>by have:=(DX.o.lt q e.symm).2;have:=h.1;omega⟩) eB yx C9
        have HOW:=U ((ig.mono (A':=λq=>q<wr.heap.size∧¬(w.heap.size≤q∧q<w.heap.size+3)) λq _ h=>h).keep (w':=w8.setCell ⟨w.heap.size+2,7,none⟩ (.slice oN (k+1) c11)) (yu.same λq h _ e=>by
         rcases h with h|h
         ·exact h.2 ae
         ·have:=(eB.lt q h.symm).1;omega))
        have cB:=U (aA.low (aA.low (Bl.call HB.o pF.o) hT1 (λq e=>by have:=hvl q e;omega)) yu (λq e=>ae));have HB2:=U (And.intro (((gq.o.1.next pF.o).turns hT1 (λe=>by have:=hvl _ e;omega)).turns yu (λe=>ae)) (And.intro (((gq.o.2.1.next pF.o).turns hT1 (λe=>by have:=hvl _ e;omega)).turns yu (λe=>ae)) (Bx.val Pv (rfl:_=dm x V0 (.slice oN (k+1) c11) (.slice none 0 0)))));have Ea:Hid (w3.heap.size≤(w8.setCell ⟨w.heap.size+2,7,none⟩ (.slice oN (k+1) c11)).heap.size∧∀q,q<w3.heap.size→¬(w.heap.size≤q∧q<w.heap.size+3)→(w8.setCell ⟨w.heap.size+2,7,none⟩ (.slice oN (k+1) c11)).heap[q]?=w3.heap[q]?):=U ⟨bC,λq h1 h2=>(yu.block q ae (λe=>ae)).trans ((hT1.block q ae (λe=>by have:=hvl q e;omega)).trans ((pF.o.block q ae).trans (HZ.o.2 q h1 h2)))⟩;have Rb:(w8.setCell ⟨w.heap.size+2,7,none⟩ (.slice oN (k+1) c11)).heap.size=w8.heap.size:=aj;have TG:=U Rb;clear Rb hT1 yu ig Pv qD Gv LP zl8 eB yx C9 OU XL;generalize w8.setCell ⟨w.heap.size+2,7,none⟩ (.slice oN (k+1) c11)=wz at *;go_wp2;go_roundw
        case rel=>exact⟨k+1,_,ae,aY,U (by have h:=HOW.o;rw[show BG p x.sheets (k+1)=BG p x.sheets k++[GQ p k f] by rw[anE p (show k<x.sheets.length from iH),hf.o]];exact h.mono λq _ h=>⟨by have:=TG.o;omega,h.2⟩),cB,HB2,Ea⟩
        case measure=>exact aFF
    ·have hkk:k=n:=ae;subst hkk;obtain⟨wo,hwo⟩:∃u,u=wr:=⟨wr,rfl⟩;subst hwo
     have api:=U (Shape.mono _ DX.o.lst (A':=λq=>q<wo.heap.size∧¬(w.heap.size≤q∧q<w.heap.size+3)) λq hq h=>by
      rcases h with h|h
      ·exact h
      ·have:=(DX.o.lt q h.symm);exact⟨hq,ae⟩)
     have apu:=U (Shape.keep _ YW.o (w':=wo) ⟨HZ.o.1,λq h hq=>HZ.o.2 q hq h.2⟩);have y8:=(gq.o.1.cell 8).trans (by rw[jV.o];rfl:cx[8]?=some (.slice UU nr U1));have l8:=gq.o.1.lt;go_wp2_with fail;clear y8 l8
     go_loopw [113] (λacZ wr=>∃(m:Nat) (vr:Value),m≤nr∧acZ=.int .i64 m∧Hid (jd 43 5 (λr:je=>[Value.int .i64 r.1,Value.int .i64 r.2.1,Value.int .i64 r.2.2.1,Value.int .i64 r.2.2.2.1,Value.int .i64 r.2.2.2.2]) wo.heap.size wr vr (nO (λj=>p (2,((0:Int),(j:Int)))) x.reads m))∧Hid (BL w wr)∧Hid (Bx (w.heap.size+1) [.slice none 0 0,.int .i64 0,.int .i64 0,.int .i64 0,.int .i64 0,.int .i64 0,.int .i64 0,.slice none 0 0,.slice none 0 0] wr∧Bx (w.heap.size+2) (dm x V0 vx vr) wr)∧Hid (wo.heap.size≤wr.heap.size∧∀q,q<wo.heap.size→q≠w.heap.size+2→wr.heap[q]?=wo.heap[q]?)) (λacZ _=>nr-(intOf acZ).toNat)
     case atStart=>exact⟨0,_,ae,rfl,U (Di (VW _ _)),HB,U gq.o.2,U ⟨aV _,λ_ _ _=>rfl⟩⟩
     case round=>
      obtain⟨m,vr,hm,rfl,Ca,pF,yI,HK⟩:=hrel;have hwk:=HK.o.1;by_cases hlm:m<nr
      ·have Q5:m<x.reads.length:=by have:=Q7.o;omega
       have hRL:=HX.o.reads.below pF.o;rw[Q7.o]at hRL;obtain⟨bm,om,csm,e3,hbl,hrd,hcl⟩:=aC.at hRL Q5;subst e3;obtain⟨R,hR⟩:∃R,Hid (x.reads[m]=R):=⟨_,U rfl⟩;rw[hR.o]at hrd;have uB:=yE.1 hrd;subst uB;have d0:=hcl 0 aW;have d1:=hcl 1 aW;have d2:=hcl 2 aW;have d3:=hcl 3 aW;have d4:=hcl 4 aW;simp only[show Shape.rdg.n=5 from rfl,aK,bB,oI]at d0 d1 d2 d3 d4;have j1:(0:Int)≤(m:Int):=ae;have j2:(m:Int)<nr:=ae;clear hcl hrd hRL;go_wp2_with fail;have wO:=U (Bx.new (W:=wr) (t:=43) (vs:=[.int .i64 R.1,.int .i64 R.2.1,.int .i64 R.2.2.1,.int .i64 R.2.2.2.1,.int .i64 R.2.2.2.2]) rfl);have dQ:=Bl.alloc (aB wr.heap.size wr) (.cells #[R.1,R.2.1,R.2.2.1,R.2.2.2.1,R.2.2.2.2] 43);have vQ:(wr.alloc (.cells #[R.1,R.2.1,R.2.2.1,R.2.2.2.1,R.2.2.2.2] 43)).heap.size=wr.heap.size+1:=aj;generalize wr.alloc (.cells #[R.1,R.2.1,R.2.2.1,R.2.2.2.1,R.2.2.2.2] 43)=wq at *;clear d0 d1 d2 d3 d4;refine(HP.o wq (2,((0:Int),(m:Int))) (Bl.call pF.o dQ)).mono ?_;rintro e w6 ⟨rfl,hb6⟩;have vR:=hb6.size;have dD:=U (Bl.call dQ hb6);have wO:=U (wO.o.next hb6);have Ca:=U (il Ca.o dD.o);have JH:=U (Bl.call pF.o dD.o);have yI:=U (And.intro (yI.o.1.next dD.o) (yI.o.2.next dD.o))
       have xI:Hid (wo.heap.size≤w6.heap.size∧∀q,q<wo.heap.size→q≠w.heap.size+2→w6.heap[q]?=wo.heap[q]?):=U ⟨ae,λq h1 h2=>(dD.o.block q ae).trans (HK.o.2 q h1 h2)⟩;obtain⟨qb,uH⟩:∃b,Hid (p (2,((0:Int),(m:Int)))=b):=⟨_,U rfl⟩;rw[uH.o];have hwb:=HB.o.size;have hwz:=gq.o.2.2.lt;clear dQ hb6
       cases qb with
       |true=>
        go_wp2;go_roundw
        case rel=>exact⟨m+1,vr,ae,aY,U (by rw[abT (q:=λj=>p (2,((0:Int),(j:Int)))) _ uH.o];exact Ca.o),JH,yI,xI⟩
        case measure=>exact aFF
       |false=>
        obtain⟨a8,c8,rfl⟩:=lu Ca.o;obtain⟨N,hN⟩:∃N,Hid ((nO (λj=>p (2,((0:Int),(j:Int)))) x.reads m).length=N):=⟨_,U rfl⟩;have gM:=Ca.o;unfold jd at gM;have XP:=yI.o.2;rw[hN.o]at gM XP;have hNm:N≤m:=by have:=Rn (λj=>p (2,((0:Int),(j:Int)))) x.reads m;have:=hN.o;omega
        have kP:=U gM;have qE:=U XP;have L9:=U (VV (q:=λj=>p (2,((0:Int),(j:Int)))) Q5 uH.o);rw[hR.o]at L9;have p0:=wO.o.cell 0;have p1:=wO.o.cell 1;have p2:=wO.o.cell 2;have p3:=wO.o.cell 3;have p4:=wO.o.cell 4;have pl:=wO.o.lt;simp only[aK,bB]at p0 p1 p2 p3 p4;have y8:w6.cell? ⟨w.heap.size+2,8,none⟩=some (.slice a8 N c8):=(qE.o.cell 8).trans rfl;have y9:=qE.o.lt;obtain⟨i0,hi,hz0,hz1',hz2⟩:=dY akv;clear gM XP;go_wp2_with (at_builtin;go_loud (refine iE (kP.o.alloc _) ⟨w6.heap.size,0,none⟩ 1 1 [R.1,R.2.1,R.2.2.1,R.2.2.2.1,R.2.2.2.2] hi hz0 hz1' hz2 ?_);intro v8 w8 eB yx C9;obtain⟨jw,c10,rfl⟩:=bv eB;have BQ:=U (Ep (c:=8) qE.o (aB _ _) kP.o eB yx C9 hwz rfl);obtain⟨Gv,LP⟩:=BQ.o.1)
        obtain⟨hx5,jX,t5,s5⟩:=BQ.o.2 0;have Mt:Hid (Bx (w.heap.size+2) (dm x V0 vx (.slice jw (N+1) c10)) (w8.setCell ⟨w.heap.size+2,8,none⟩ (.slice jw (N+1) c10))):=U (Bx.val hx5 rfl);have wR:Hid (aA (λq=>q=w.heap.size+2∨some q=(Value.slice a8 N c8).ownBlock) w6 (w8.setCell ⟨w.heap.size+2,8,none⟩ (.slice jw (N+1) c10))):=U t5;have Hw:=U (xk (e:=43) (enc:=λr:je=>[Value.int .i64 r.1,Value.int .i64 r.2.1,Value.int .i64 r.2.2.1,Value.int .i64 r.2.2.2.1,Value.int .i64 r.2.2.2.2]) (x:=R) (xs:=nO (λj=>p (2,((0:Int),(j:Int)))) x.reads m) (show((w8.setCell ⟨w.heap.size+2,8,none⟩ (.slice jw (N+1) c10)).ownsRow _ _ _ _ _ _)from jX) RY rfl);clear hx5 jX t5 s5 BQ Gv LP eB yx C9 p0 p1 p2 p3 p4 pl y8 y9;generalize w8.setCell ⟨w.heap.size+2,8,none⟩ (.slice jw (N+1) c10)=wz at *;go_wp2;go_roundw
        case rel=>
         have hbs:=wR.o.size;refine⟨m+1,.slice jw (N+1) c10,ae,aY,U (by rw[L9.o];exact Hw.o),U ?_,U ⟨yI.o.1.turns wR.o (λe=>by rcases e with e|e;omega;have:=(kP.o.lt _ e.symm).1;omega),Mt.o⟩,U ⟨Vw,λq h1 h2=>?_⟩⟩
         ·exact aA.low JH.o wR.o (λq e=>by rcases e with e|e;omega;have:=(kP.o.lt q e.symm).1;omega)
         ·refine(wR.o.block q Vw (λe=>?_)).trans (xI.o.2 q h1 h2);rcases e with e|e
          ·exact h2 e
          ·exact aFp
        case measure=>exact aFF
      ·have hmm:m=nr:=ae;subst hmm;have Pk:=U (Shape.keep _ apu.o (w':=wr) ⟨hwk,λq h hq=>HK.o.2 q (by have:=HZ.o.1;have:=h.1;omega) (by have:=h.2;omega)⟩);have kQ:=U (Shape.keep _ api.o (w':=wr) ⟨hwk,λq h hq=>HK.o.2 q h.1 (by have:=h.2;omega)⟩);have tN:=U (Ja yE (e:=43) Ca.o);have hV1:V0.oneCell'=true:=nP (s:=Shape.sta) Pk.o;obtain⟨DC,Vi⟩:∃D,Hid (dm x V0 vx vr=D):=⟨_,U rfl⟩;have qE:=yI.o.2;rw[Vi.o]at qE;have nC:Hid (DC.length=9):=U (by rw[←Vi.o];rfl);have wN:Hid (dM wr (lF x p) DC):=U ⟨V0,vx,vr,Vi.o.symm,Shape.list_far Pk.o,(by have h:=kQ.o;rw[←hn.o]at h;exact Shape.list_far h),by have:=tN.o;rw[←Q7.o]at this;exact this⟩;have Ya:=U (Cx.whole qE);go_wp2_with (first|(refine dh bK rfl Ya.o nC.o ?_)|(refine SS (B:=w.heap.size+1) (o:=0) bK rfl rfl yI.o.1 nC.o aW wN.o.one ?_))
       have PI:=(yI.o.1.cells (o:=0) (cs:=DC) RV).val (Wm (by rw[nC.o];rfl));obtain⟨ct,cf,hco⟩:=PI.obj RV;have hT:aA (λq=>q=w.heap.size+1) wr (wr.setCells (w.heap.size+1) 0 DC):=aA.setCells (own:=λq=>q=w.heap.size+1) rfl DC 0 wr;have hwb:=HB.o.size;have hwz:=gq.o.2.2.lt;refine kE (Lb results100 _ _ _ ct _ cf _ rfl hco underlying30 rfl aml) rfl ⟨DC,rfl,⟨V0,vx,vr,Vi.o.symm,?_,?_,?_⟩,aA.low pF.o hT (λq e=>ae)⟩
       ·exact Shape.list_far (Shape.keep _ Pk.o (hT.same λq h _ e=>h.2 ae))
       ·have h:=kQ.o;rw[←hn.o]at h;exact Shape.list_far (Shape.keep _ h (hT.same λq h _ e=>h.2 ae))
       ·have h:=Ja yE (e:=43) (fO Ca.o hT (λq hq e=>by have:=(Ca.o.lt q hq).1;omega));rw[←Q7.o]at h;exact h
end
section
variable {P:Program} (w:World)
theorem ayO(base:Nat)(t ty e:TypeId)(i:TypeInfo)(z:Value)(size bytes:Nat)(ht:P.underlying t=some (.slice e))(hi:P.info? e=some i)(hz:i.zero=some z)
  (hsize:i.size=size) (hby:i.bytes=bytes) (hzs:z.cells.size=size) (g:Nat) (hg:w.heap[g]?=some (.cells #[] e (0,0))) (hbg:base≤g)
  (a:Addr) (m c:Nat) (news:List Value) (hl:news.length=m*size) (hnews:∀j u,news[j]?=some u→w.cell? (a.add j)=some u) (h1:∀u∈news,u.oneCell'=true)
  (h63:m≤maxLen) (hbytes:m*bytes≤140737488355328) :
  ∃v' w',(Builtin.append_ #[t,t] ty #[.slice (some ⟨g,0,none⟩) 0 0,.slice (some a) m c]).run P w=.ok v' w'∧w'.ownsRow base e size v' m news∧BL w w':=by
 subst hsize;subst hby;have hgl:g<w.heap.size:=(nu.1 hg).1;by_cases hm:m=0
 ·subst hm;have hn:news=[]:=jo (by simpa using hl);subst hn;have hr:=run_append_room (P:=P) w t ty e i ht hi g 0 0 #[] hg a 0 c [] hl hnews h1 ae aj;refine⟨_,_,hr,⟨aj,.inr ⟨g,0,#[],rfl,hbg,?_,aj,aj,aj,aj⟩⟩,⟨rfl,rfl,rfl,aj,λk _=>?_⟩⟩
  ·have:=setRow_heap w g #[] (#[].toList.take (0*i.size)++[]++#[].toList.drop (0*i.size+0)).toArray e (0,0) hg;simpa using this
  ·by_cases e1:k=g
   ·subst e1;have:=setRow_heap w k #[] (#[].toList.take (0*i.size)++[]++#[].toList.drop (0*i.size+0)).toArray e (0,0) hg;rw[hg];simpa using this
   ·exact setRow_other w g k _ e1
 ·have hr:=run_append_grow (P:=P) w t ty e i z ht hi hz ⟨g,0,none⟩ 0 0 [] aj aj a m c news hl hnews ae (by simp only[maxLen]at h63;omega) (aiz ae (by simpa using hbytes));have hge:=grownCap_ge w (0+m) 0 e;have hcm:grownCap w (0+m) 0 e≤maxLen:=grownCap_le_maxLen w (0+m) 0 e ae;simp only[oJ]at hr hge hcm;refine⟨_,_,hr,⟨by simpa using hl,.inr ⟨w.heap.size,_,_,aj,ae,CZ w.drew _,ae,hcm,?_,?_⟩⟩,⟨rfl,rfl,rfl,aj,λk hk=>by exact heap_alloc_old w.drew _ hk⟩⟩
  ·simp only[aeg,jb,amP,hzs,hl,fU,oJ,←Zy]
   congr 1
   omega
  ·simp only[Array.toList_append,fE];exact List.take_left' hl
theorem anV{o:Oper}(hgd:o.guard=none)(s x:Operand)(t:TypeId)
  (ho:o.op=.call { callee:=.builtin .append,args:=#[s,x],argTypes:=#[t,t] })
  (base:Nat) (e:TypeId) (i:TypeInfo) (z:Value) (size bytes:Nat) (ht:P.underlying t=some (.slice e)) (hi:P.info? e=some i) (hz:i.zero=some z)
  (hsize:i.size=size) (hby:i.bytes=bytes) (hzs:z.cells.size=size) (g:Nat) (hg:w.heap[g]?=some (.cells #[] e (0,0))) (hbg:base≤g) (hs:a.eval s=.slice (some ⟨g,0,none⟩) 0 0)
  (ad:Addr) (m c:Nat) (news:List Value) (hx:a.eval x=.slice (some ad) m c) (hl:news.length=m*size) (hnews:∀j u,news[j]?=some u→w.cell? (ad.add j)=some u) (h1:∀u∈news,u.oneCell'=true)
  (h63:m≤maxLen) (hbytes:m*bytes≤140737488355328)
  (h:∀v' w',w'.ownsRow base e size v' m news→BL w w'→wpList P ops Q rest (a.put o.dst v') w'):wpList P ops Q (o::rest) a w:=by
 refine Jv hgd λK hK=>?_;obtain⟨v',w',hrun,r1,r2⟩:=ayO (P:=P) w base t o.type e i z size bytes ht hi hz hsize hby hzs g hg hbg ad m c news hl hnews h1 h63 hbytes;unfold Oper.wp execOp;simp only[ho,resolve,invoke,builtin,wU,Ke,AB,PY,oG,Av,hs,hx,hrun];exact hK _ _ (h v' w' r1 r2)
end
theorem KW{s:Shape α}{m:Nat}{xs ys:List α}{cs ds:List (List Value)}(ho:W.ownsRow base e s.n v m (cs.flatten++ds.flatten))(hm:m=xs.length+ys.length)(h1:cs.length=xs.length)(h2:ds.length=ys.length)
  (r1:∀k,(h:k<xs.length)→(g:k<cs.length)→s.reads (λ_=>True) w0 cs[k] xs[k]) (r2:∀k,(h:k<ys.length)→(g:k<ds.length)→s.reads (λ_=>True) w0 ds[k] ys[k]) (hb:BL w0 W) (hbase:w0.heap.size≤base):aC s W v (xs++ys):=by
 have key:∀ {c:List Value} {x:α},s.reads (λ_=>True) w0 c x→s.reads (λb=>b<w0.heap.size∧some b≠v.ownBlock) W c x:=by
  intro c x hc;have a1:s.reads (λb=>b<w0.heap.size) w0 c x:=s.mono hc λb hb _=>hb;have a2:=s.keep a1 (w':=W) ⟨hb.size,λb hl _=>hb.block b hl⟩;refine s.mono a2 λb _ hl=>⟨hl,λe1=>?_⟩;have:=(ho.lt b e1.symm).1;omega
 have hO:Own s (λb=>b<w0.heap.size) W base e v (xs++ys):=by
  refine⟨cs++ds,by simp[h1,h2],aEX,λk hk g=>?_⟩;by_cases hlt:k<xs.length
  ·rw[Ul hlt,Ul ae];exact key (r1 k hlt ae)
  ·have hge:cs.length≤k:=ae;have hy:k-xs.length<ys.length:=WK;have hq:k-xs.length<ds.length:=ae;have e1:(xs++ys)[k]=ys[k-xs.length]:=Um ae;have e2:(cs++ds)[k]=ds[k-xs.length]:=ayU;rw[e1,e2];exact key (r2 _ hy hq)
 exact Shape.list_far hO.lst
section
attribute [local go_sem] Qv
attribute [local go_sem] Oper.semAt_some
def agG(x:aJ):Prop:=∀f∈x.sheets,f.names.length≤1000000∧f.sheet.blots.length≤1000000
theorem anD(x:aJ)(cx:List Value)(g:Nat)(lb:Array Value)(p:fB→Bool)(w:World)(hx:dM w x cx)(hok:fM x)(hfit:Fits x)(hn:1≤x.sheets.length)(hnm:agG x)(hg:Enters prog g)(hp:UF g lb p w):
  Calls prog 59 #[.agg cx.toArray,.func (.func g) #[] lb] w λe w'=>(∃b:Bool,e=.returned (.bool b)∧(b=true↔iK (lF x p)))∧BL w w':=by
 have bZ:=U hx;have bE:=U hx.len;have dO:=U hok;have HF:=U hfit;have JK:=U hnm;have HP:=U hp;have HG:=U hg;clear hx hok hfit hnm hp hg;go_in;go_wp2_with (with_reducible_and_instances refine dI 8 ?_)
 have aZ:=U (Bx.new (W:=w) (t:=30) (vs:=cx) rfl);have HB0:=U (Bl.alloc (aB w.heap.size w) (.cells cx.toArray 30));generalize w.alloc (.cells cx.toArray 30)=w0 at *;refine⟨?_⟩;have HC:=U (Cx.whole aZ.o);go_wp2_with (refine dh bK rfl HC.o bE.o ?_)
 refine(aCf x cx g lb p w0 (bZ.o.below HB0.o) dO.o JK.o HG.o (λW c hb=>HP.o W c (Bl.call HB0.o hb))).mono ?_;rintro e w1 ⟨cx1,rfl,hx1,hb1⟩;have apO:=U hx1;have HB1:=U (Bl.call HB0.o hb1);clear hx1 hb1 HB0 HC aZ;go_wp2_with fail;refine(ad7 (lF x p) cx1 w1 apO.o (anI p dO.o)).mono ?_;rintro e w2 ⟨hb2,hP⟩;have HB2:=U (Bl.call HB1.o hb2);rcases hP with⟨hnf,rfl⟩|⟨hf,B,rfl,hBw,hR⟩
 ·exact absurd (aBO p HF.o) hnf
 ·have HR:=U hR;have hnl:(lF x p).sheets.length=x.sheets.length:=Xl _ _ (aV _);have O6:Hid (1≤(lF x p).sheets.length):=U (by rw[hnl];exact hn);obtain⟨q,o,c,vs,Em,jh,_⟩:=HR.o.regW O6.o;have HRW:=U jh;have Ad:=U hf;clear jh hR hf hb2 hnl;go_wp2_with fail;refine(acV B q o (lF x p).sheets.length c vs (zq (lF x p)) (zN (lF x p)) (mQ (lF x p)) w2 HRW.o (NV (anI p dO.o) Ad.o O6.o)).mono ?_;rintro e w3 ⟨hb3,b,rfl,hbi⟩;have HB3:=U (Bl.call HB2.o hb3);have HI:Hid (b=true↔iK (lF x p)):=U (by rw[hbi];unfold iK;simp only[WP]);clear hb3 hbi;go_wp2;go_ret;exact⟨⟨b,rfl,HI.o⟩,HB3.o⟩
theorem ar8(w:World)(p:fB→Bool)(hp:∀c,p c=false):UF 60 #[] p w:=by
 intro W c hb;rw[hp c];go_in;go_wp2;go_ret;exact⟨rfl,Bl.alloc (aB _ _) _⟩
theorem ar9(w:World)(B:Nat)(a:Option Addr)(c:Nat)(l:List fB)(hX:Bx B [.slice a l.length c] w)(hl:aC Shape.trip w (.slice a l.length c) l)(hn:l.length≤1000000):UF 62 #[.pointer (some ⟨B,0,none⟩)] (λc=>!decide (c∈l)) w:=by
 intro W y hb;have HX:=U (hX.next hb);have HL:=U (hl.below hb);obtain⟨n,hnn⟩:∃m,Hid (l.length=m):=⟨_,U rfl⟩;obtain⟨y1,y2,y3⟩:=y;dsimp only;have Vh:=U (λW' (hb':BL W W')=>arb a c l (y1,y2,y3) W' (HL.o.below hb') hn);rw[hnn.o]at HX Vh;obtain⟨bm,AY⟩:∃b,Hid (decide ((y1,y2,y3)∈l)=b):=⟨_,U rfl⟩;rw[AY.o]at Vh ⊢;have d0:=HX.o.cell 0;have dl:=HX.o.lt;simp only[aK]at d0;clear hX hl hb;go_in;go_wp2_with fail;have hb0:=Bl.alloc (aB W.heap.size W) (.cells #[y1,y2,y3] 82);generalize W.alloc (.cells #[y1,y2,y3] 82)=w0 at *;refine(Vh.o w0 hb0).mono ?_;rintro e w1 ⟨rfl,hb1⟩;go_wp2;go_ret;exact⟨rfl,Bl.call hb0 hb1⟩
def zA(l:List fB)(c:fB):Bool:=!decide (c∈l)
def aem(x:aJ)(l:List fB):Prop:=dA x=0∧(nL x).length≤12∧Fits x∧¬iK x∧∃pre post,yj (nL x)=pre++l::post∧(∀m∈pre,iK (lF x (zA m)))∧¬iK (lF x (zA l))
def ael(x:aJ):Prop:=¬(dA x=0∧(nL x).length≤12∧Fits x)∨iK x∨∀m∈yj (nL x),iK (lF x (zA m))
def aoe(x:aJ)(w:World)(e:Ending)(w':World):Prop:=BL w w'∧((∃q,q≠0∧ael x∧e=.returned (.tuple #[.slice none 0 0,.int .i64 q]))∨(∃v l,aem x l∧e=.returned (.tuple #[v,.int .i64 0])∧qF 82 w.heap.size w' v l))
theorem ad5(d:Nat){n:Nat}{w:World}{op:Op}{pos:String}{g:Option (Nat×Bool)}(h:Stop (wpListIn F n P ops Q (⟨some d,op,ty,pos,af,g⟩::rest) a w)):wpListIn F n P ops Q (⟨some d,op,ty,pos,af,g⟩::rest) a w:=h.o
theorem Wq{p q:Tmp}{t1 t2:TypeId}{d1 d2:TypeDesc}(h:fn.results=#[.cell p t1,.cell q t2])(tmps:Array Value)(w:World)(g1 g2:Nat)(v1 v2:Value)
  (hp:tmps.getD p undef=.pointer (some ⟨g1,0,none⟩)) (hq:tmps.getD q undef=.pointer (some ⟨g2,0,none⟩)) (hc1:w.cell? ⟨g1,0,none⟩=some v1) (hc2:w.cell? ⟨g2,0,none⟩=some v2) (hu1:P.underlying t1=some d1) (hu2:P.underlying t2=some d2)
  (hd1:(match d1 with|.struct _|.array _ _=>true|_=>false)=false) (hd2:(match d2 with|.struct _|.array _ _=>true|_=>false)=false):(results fn tmps).run P w=.ok (.tuple #[v1,v2]) w:=by
 have hp':tmps[p]?.getD undef=.pointer (some ⟨g1,0,none⟩):=Oh;have hq':tmps[q]?.getD undef=.pointer (some ⟨g2,0,none⟩):=Sk;simp[results,h,hp',hq',asAddr,loadVar,wU,Result.andThen,al7 hu1 hd1,al7 hu2 hd2,hc1,hc2]
theorem acv:∀(l:List α) (n:Nat) (on m:List α),m∈nS l n on→m.length=on.length+n
 |l,0,on,m,h=>by rw[alF]at h;simp at h;rw[h];rfl
 |[],n+1,on,m,h=>by simp[nS]at h
 |c::l,n+1,on,m,h=>by
  rcases oH.1 (show m∈nS l n (on++[c])++nS l (n+1) on from h)with h|h
  ·have:=acv l n _ m h;rw[this,dn];simp;omega
  ·exact acv l (n+1) on m h
theorem ase{l m:List fB}(h:m∈yj l):m.length≤l.length:=by
 unfold yj GA at h;obtain⟨n,hn,hm⟩:=iB.1 h;have:=acv l n [] m hm;have:=fD.1 hn;simp at *;omega
theorem aBd(x:aJ)(cx:List Value)(w:World)(hx:dM w x cx)(hn:1≤x.sheets.length)(hnm:agG x):
  Calls prog 25 #[.agg cx.toArray] w (aoe x w):=by
 have bZ:=U hx;have bE:=U hx.len;have JK:=U hnm;clear hx hnm;refine(xW (n:=1)).1 ?_;refine zb func25 rfl trivial ?_ rfl;simp only[ntmps25,jb,dS,fU,Nat.reduceAdd,Nat.reduceSub,kv,kw,kC,kz,fE,gB];have hfn:∀k,Fence.wide.fn k:=λ_=>trivial;have hdp:¬(Fence.wide.depth.isSome=true):=kL
 gi_wp2_with (with_reducible_and_instances refine ad5 8 ?_)
 have aZ:=U (((Bx.new (W:=w) (t:=30) (vs:=cx) rfl).alloc (.cells #[.slice none 0 0] 77)).alloc (.cells #[.int .i64 0] 34));have bg:=U ((Bx.new (W:=w.alloc (.cells cx.toArray 30)) (B:=w.heap.size+1) (t:=77) (vs:=[.slice none 0 0]) aj).alloc (.cells #[.int .i64 0] 34));have bP:=U (Bx.new (W:=(w.alloc (.cells cx.toArray 30)).alloc (.cells #[.slice none 0 0] 77)) (B:=w.heap.size+1+1) (t:=34) (vs:=[.int .i64 0]) aj);have HB0:=U (Bl.alloc (Bl.alloc (Bl.alloc (aB w.heap.size w) (.cells cx.toArray 30)) (.cells #[.slice none 0 0] 77)) (.cells #[.int .i64 0] 34));generalize ((w.alloc (.cells cx.toArray 30)).alloc (.cells #[.slice none 0 0] 77)).alloc (.cells #[.int .i64 0] 34)=w0 at *;refine⟨?_⟩;have VT:=bP.o.lt;have HC:=U (Cx.whole aZ.o);refine SN jJ _ rfl _ _ ?_;go_wp2_with (refine dh bK rfl HC.o bE.o ?_)
 refine(aCc x cx w0 (bZ.o.below HB0.o)).mono ?_;rintro e w1 ⟨hb1,hS⟩;have aZ:=U (aZ.o.next hb1);have bg:=U (bg.o.next hb1);have bP:=U (bP.o.next hb1);have HB1:=U (Bl.call HB0.o hb1);have hz0:=bP.o.lt;have aEd:=hb1.size;clear HC hb1;rcases hS with⟨q,hq,hbad,rfl⟩|⟨⟨g1,g2,g3⟩,v,rfl,hO⟩
 ·have HQ:=U hq;have HBAD:=U hbad;have q1:(q != 0)=true:=Sk;clear hq hbad;have a0:=bg.o.cell 0;have af:=bg.o.free 0;have al:=bg.o.lt;have b0:=bP.o.cell 0;have bf:=bP.o.free 0;have bl:=bP.o.lt;simp only[aK]at a0 b0;go_wp2_with fail;simp only[iI];gi_wp2_with fail;have hY2:=(bg.o.set 0 (.slice none 0 0) aj).far (p:=⟨w.heap.size+1+1,0,none⟩) aj (.int .i64 q);have hY3:=(bP.o.far (p:=⟨w.heap.size+1,0,none⟩) aj (.slice none 0 0)).set 0 (.int .i64 q) aj;exact⟨_,Wq rfl _ _ _ _ _ _ rfl rfl (hY2.cell 0) (hY3.cell 0) underlying77 underlying34 rfl rfl,Bl.setCell (Bl.setCell HB1.o (p:=⟨w.heap.size+1,0,none⟩) aj _) (p:=⟨w.heap.size+1+1,0,none⟩) bC _,.inl ⟨q,HQ.o,.inl HBAD.o,rfl⟩⟩
 ·have HG:=U (And.intro g1 (And.intro g2 g3));have HO:=U hO;obtain⟨a4,c4,rfl⟩:=lu hO;clear g1 g2 g3 hO;have dO:=U (ma HG.o.1);have HC:=U (Cx.whole aZ.o);go_wp2_with fail;simp only[iI]
  gi_wp2_with (with_reducible_and_instances refine ad5 15 ?_)
  refine⟨?_⟩;refine SN jJ _ rfl _ _ ?_;go_wp2_with (refine dh bK rfl HC.o bE.o ?_)
  refine(anD x cx 60 #[] (λ_=>false) w1 (bZ.o.below HB1.o) dO.o HG.o.2.2 hn JK.o (fo func60 aF rfl) (ar8 w1 _ (λ_=>rfl))).mono ?_;rintro e w2 ⟨⟨b,rfl,hb⟩,hb2⟩;rw[aBP]at hb;have pF:=U hb;have aZ:=U (aZ.o.next hb2);have bg:=U (bg.o.next hb2);have bP:=U (bP.o.next hb2);have HB2:=U (Bl.call HB1.o hb2);have HO:=U (il HO.o hb2);have avm:=hb2.size;clear HC hb hb2
  cases b with
  |true=>
   have a0:=bg.o.cell 0;have af:=bg.o.free 0;have al:=bg.o.lt;have b0:=bP.o.cell 0;have bf:=bP.o.free 0;have bl:=bP.o.lt;simp only[aK]at a0 b0;go_wp2_with fail;simp only[iI];gi_wp2_with fail;have hY2:=(bg.o.set 0 (.slice none 0 0) aj).far (p:=⟨w.heap.size+1+1,0,none⟩) aj (.int .i64 3);have hY3:=(bP.o.far (p:=⟨w.heap.size+1,0,none⟩) aj (.slice none 0 0)).set 0 (.int .i64 3) aj;exact⟨_,Wq rfl _ _ _ _ _ _ rfl rfl (hY2.cell 0) (hY3.cell 0) underlying77 underlying34 rfl rfl,Bl.setCell (Bl.setCell HB2.o (p:=⟨w.heap.size+1,0,none⟩) aj _) (p:=⟨w.heap.size+1+1,0,none⟩) bC _,.inl ⟨3,ae,.inr (.inl (pF.o.1 (by first|rfl|simp))),rfl⟩⟩
  |false=>
   have BV:Hid (¬iK x):=U (λh=>by have:=pF.o.2 h;cases this);go_wp2_with fail;simp only[iI];gi_wp2_with fail;refine(jH jJ (aCd a4 (nL x).length c4 w2)).mono ?_;rintro e w4 ⟨rfl,rfl⟩;have dQ:=Bl.alloc (aB w2.heap.size w2) (.cells #[.slice a4 (nL x).length c4] 77);have aX:=U (Bx.new (W:=w2) (t:=77) (vs:=[.slice a4 (nL x).length c4]) rfl);have aZ:=U (aZ.o.next dQ);have bg:=U (bg.o.next dQ);have bP:=U (bP.o.next dQ);have bX:=U (Bl.call HB2.o dQ);have HO:=U (il HO.o dQ);have avp:w2.heap.size<(w2.alloc (.cells #[.slice a4 (nL x).length c4] 77)).heap.size:=aX.o.lt;clear dQ;generalize w2.alloc (.cells #[.slice a4 (nL x).length c4] 77)=w4 at *;have qC:=U (λn=>azJ (λq=>w.heap.size+3≤q∧q<w4.heap.size) w2.heap.size a4 c4 (nL x) n w4 aX.o (Shape.mono _ (Bo jC (e:=82) HO.o) λq hq h=>⟨ae,hq⟩) (λq h=>h.2) ⟨ae,avp⟩ (by have:=HG.o.2.1;omega));gi_wp2_with fail;refine(λ(h:∃A:Nat→(Value×List fB)→Act,_)=>h.elim λ_ h=>h) ?_;apply Exists.intro
   refine E8 (gf:=101) (lb:=#[.pointer (some ⟨w2.heap.size,0,none⟩)]) rfl (fo func101 aF rfl) (qC.o _) (λq hq=>hq.2) (λ_=>rfl)
    (λown pre W=>BL w4 W∧Hid (∀y∈pre,iK (lF x (zA y.2)))) ?hI
    (λcd own xs W=>cd=.ret∧∃pre y,xs=pre++[y]∧Hid ((∀y∈pre,iK (lF x (zA y.2)))∧¬iK (lF x (zA y.2)))∧(∃ys:List (Value×List fB),ys.map (·.2)=yj (nL x)∧xs <+: ys)∧(Bx (w.heap.size+1) [y.1] W∧Bx (w.heap.size+1+1) [.int .i64 0] W)∧(OG w4.heap.size own y W∧(∀k,y.1.ownBlock=some k→k≠w4.heap.size∧k≠w4.heap.size+1))∧BL w W) ?hIx ?h0
    (λown pre y a1 W=>∃bt,(Bx bt [y.1] W∧w4.heap.size+2≤bt∧¬own bt)∧(OG w4.heap.size own y W∧(∀k,y.1.ownBlock=some k→k≠w4.heap.size∧k≠w4.heap.size+1))∧(∃ys:List (Value×List fB),ys.map (·.2)=yj (nL x)∧(pre++[y]) <+: ys)∧(BL w4 W∧Hid (∀y∈pre,iK (lF x (zA y.2))))∧a1=?w bt y) ?hAx ?assign ?body ?done ?stop
   case hI=>
    intro own own' s A B hi ho hs ht hw;exact⟨aA.below hi.1 ht ae (λk h=>by rcases h with h|h|h;have:=ho k h;omega;omega;omega),hi.2⟩
   case hIx=>
    rintro cd own own' s A B ⟨h1,pre,y,h2,h3,h4,⟨h5,h6⟩,⟨⟨h7,h8⟩,h10⟩,h9⟩ ho hs ht hw;refine⟨h1,pre,y,h2,h3,h4,⟨h5.turns ht (λh=>?_),h6.turns ht (λh=>?_)⟩,⟨⟨fO h7 ht (λk hk h=>?_),λk hk h=>?_⟩,h10⟩,aA.low h9 ht (λk h=>?_)⟩
    ·rcases h with h|h|h
     ·exact VD
     ·omega
     ·omega
    ·rcases h with h|h|h
     ·exact VD
     ·omega
     ·omega
    ·rcases h with h|h|h
     ·exact h8 k hk h
     ·exact(h10 k hk).1 h
     ·exact(h10 k hk).2 h
    ·rcases hw k h with h|h
     ·exact h8 k hk h
     ·have:=(h7.lt k hk).2;omega
    ·rcases h with h|h|h
     ·exact KE
     ·omega
     ·omega
   case h0=>exact⟨aB _ _,U (λy h=>ze)⟩
   case hAx=>
    rintro own pre y a1 A B ⟨bt,⟨h1,h2,h3⟩,⟨⟨h4,h5⟩,h10⟩,h6,⟨h7,h8⟩,h9⟩ ho ht hlt hsz;exact⟨bt,⟨h1.turns ht (λe=>ae),h2,h3⟩,⟨⟨fO h4 ht (λk hk e=>(h10 k hk).2 e),h5⟩,h10⟩,h6,⟨aA.below h7 ht ae (λk e=>ae),h8⟩,h9⟩
   case assign=>
    rintro ll own pre y W hi' ho hs hlt hpre hfa hnc;have HI:=U hi';have HP:=U hpre;have DW:=U hfa
    have Ai:Hid (∀k,y.1.ownBlock=some k→k≠w4.heap.size∧k≠w4.heap.size+1):=U (λk hk=>by
     rcases hfa.1.2 with⟨e,_⟩|⟨g,cap,cur,e,_,hgg,_⟩
     ·rw[e]at hk;cases hk
     ·rw[e]at hk;cases hk
      exact⟨λh=>((hnc 0).2 _ _ _).1 (by have h':g=w4.heap.size:=h;rw[←h'];exact hgg),λh=>((hnc 0).2 _ _ _).2 (by have h':g=w4.heap.size+1:=h;rw[←h'];exact hgg)⟩)
    clear hi' hpre hfa hnc;obtain⟨av,cv,e1⟩:=lu DW.o.1;have jL:=U e1;unfold U3;rw[e1];clear e1;gi_wp2;rw[←jL.o];have hbl:BL W (W.alloc (.cells #[y.1] 77)):=Bl.alloc (aB _ _) _;refine⟨fG.of_below hbl λq hq=>?_,W.heap.size,⟨Bx.new rfl,hs,λh=>VD⟩,⟨⟨il DW.o.1 hbl,DW.o.2⟩,Ai.o⟩,HP.o,⟨Bl.call HI.o.1 hbl,HI.o.2⟩,?_⟩
    ·rcases hq with h|h|h|h
     ·have:=h.2;omega
     ·exact(ho q h).2
     ·omega
     ·omega
    ·(try unfold BL at *);generalize W.heap.size=bt at *
     rfl
   case body=>
    rintro ll own pre y a1 W ⟨bt,⟨h1,h2,h3⟩,⟨⟨h4,h5⟩,h10⟩,h6,⟨h7,h8⟩,rfl⟩ ho hs hlt _;obtain⟨av,cv,e1⟩:=lu h4
    have hlen:y.2.length≤1000000:=by
     obtain⟨ys,e2,e3⟩:=h6;have:y.2∈yj (nL x):=by rw[←e2];exact dz.2 ⟨y,e3.subset aj,rfl⟩
     have:=ase this;have:=HG.o.2.1;omega
    have hBW:BL w W:=Bl.call bX.o h7;have aZ:=U (aZ.o.next h7);have bg:=U (bg.o.next h7);have bP:=U (bP.o.next h7);have HXB:=U h1;have H4:=U h4;have H5:=U h5;have H6:=U h6;have H7:=U h7;have HOW:=U ho;have cB:=U hBW;have H3:=U h3;have jL:=U e1;have ako:=h7.size;clear h1 h4 h5 h6 h7 ho hBW h3 e1
    gi_wp2_with (with_reducible_and_instances refine ad5 20 ?_)
    refine⟨?_⟩;have HC:=U (Cx.whole aZ.o);refine SN (E5 ll) _ rfl _ _ ?_;have hl4:=Jb H4.o;rw[jL.o]at hl4;have hxb:=HXB.o;rw[jL.o]at hxb;go_wp2_with (refine dh bK rfl HC.o bE.o ?_)
    refine(anD x cx 62 #[.pointer (some ⟨bt,0,none⟩)] (zA y.2) W (bZ.o.below cB.o) dO.o HG.o.2.2 hn JK.o (fo func62 aF rfl) (ar9 W bt av cv y.2 hxb hl4 hlen)).mono ?_;rintro e w6 ⟨⟨b,rfl,hb⟩,hb6⟩;have pF:=U hb;have dD:=U hb6;have vR:=hb6.size;clear hb hb6 HC hl4 hxb
    have hkeep:∀q,((w.heap.size+3≤q∧q<w4.heap.size)∨own q∨q=w4.heap.size∨q=w4.heap.size+1)→q<W.heap.size:=λq h=>by
     rcases h with h|h|h|h
     ·omega
     ·exact(HOW.o q h).2
     ·omega
     ·omega
    have HKP:=U hkeep;clear hkeep
    cases b with
    |true=>
     go_wp2_with fail;simp only[iI];gi_wp2_with fail
     exact⟨⟨vR,λq hq=>dD.o.block q (HKP.o q hq)⟩,Bl.call H7.o dD.o,U (λz hz=>by
      rcases oH.1 hz with hz|hz
      ·exact h8.o z hz
      ·rw[FW.1 hz];exact pF.o.1 (by first|rfl|simp))⟩
    |false=>
     have FK:=U (bg.o.next dD.o);have Co:=U (bP.o.next dD.o);have af3:=U (HXB.o.next dD.o);have a0:=FK.o.cell 0;have af:=FK.o.free 0;have al:=FK.o.lt;have b0:=Co.o.cell 0;have bf:=Co.o.free 0;have bl:=Co.o.lt;have x0:=af3.o.cell 0;have xl:=af3.o.lt;simp only[aK]at a0 b0 x0;rw[jL.o]at x0;have aoY:Hid (¬iK (lF x (zA y.2))):=U (λh=>by have:=pF.o.2 h;cases this);have GV:=U h10;go_wp2_with fail;simp only[iI];gi_wp2_with fail;have hT:=(aA.setCell (λq=>q=w.heap.size+1∨q=w.heap.size+1+1) w6 ⟨w.heap.size+1,0,none⟩ (.slice av y.2.length cv) (.inl rfl)).trans (aA.setCell (λq=>q=w.heap.size+1∨q=w.heap.size+1+1) (w6.setCell ⟨w.heap.size+1,0,none⟩ (.slice av y.2.length cv)) ⟨w.heap.size+1+1,0,none⟩ (.int .i64 0) (.inr rfl));have Y2:=((FK.o.set 0 (.slice av y.2.length cv) aj).far (p:=⟨w.heap.size+1+1,0,none⟩) aj (.int .i64 0)).val (us:=[y.1]) (by rw[jL.o];rfl);have Y3:=(Co.o.far (p:=⟨w.heap.size+1,0,none⟩) aj (.slice av y.2.length cv)).set 0 (.int .i64 0) aj;refine⟨⟨by have:=hT.size;omega,λq hq=>?_⟩,rfl,pre,y,rfl,U ⟨h8.o,aoY.o⟩,H6.o,⟨Y2,Y3⟩,⟨⟨fO (il H4.o dD.o) hT (λk hk e=>?_),H5.o⟩,GV.o⟩,aA.low (Bl.call cB.o dD.o) hT (λk e=>ae)⟩
     ·have hlt:=HKP.o q hq;refine(hT.block q ae (λe=>?_)).trans (dD.o.block q hlt);rcases hq with h|h|h|h
      ·omega
      ·have:=HOW.o q h;omega
      ·omega
      ·omega
     ·have:=(H4.o.lt k hk).1;omega
   case done=>
    rintro own ls W hls ⟨h1,h2⟩ ho hs hK;have bg:=U (bg.o.next h1);have bP:=U (bP.o.next h1);have cB:=U (Bl.call bX.o h1);have HK:=U hK;have H2:=U h2;have O4:=U hls;have ako:=h1.size;have a0:=bg.o.cell 0;have af:=bg.o.free 0;have al:=bg.o.lt;have b0:=bP.o.cell 0;have bf:=bP.o.free 0;have bl:=bP.o.lt;simp only[aK]at a0 b0;clear hK h2 h1 hls;gi_wp2_with fail;have hT:=(aA.setCell (λq=>q=w.heap.size+1∨q=w.heap.size+1+1) W ⟨w.heap.size+1,0,none⟩ (.slice none 0 0) (.inl rfl)).trans (aA.setCell (λq=>q=w.heap.size+1∨q=w.heap.size+1+1) (W.setCell ⟨w.heap.size+1,0,none⟩ (.slice none 0 0)) ⟨w.heap.size+1+1,0,none⟩ (.int .i64 3) (.inr rfl));have hK1:=(hT.block w4.heap.size ae (λe=>ae)).trans HK.o;refine⟨aj,.inl ⟨_,_,rfl,sO hK1,?_⟩⟩;have Y2:=(bg.o.set 0 (.slice none 0 0) aj).far (p:=⟨w.heap.size+1+1,0,none⟩) aj (.int .i64 3);have Y3:=(bP.o.far (p:=⟨w.heap.size+1,0,none⟩) aj (.slice none 0 0)).set 0 (.int .i64 3) aj;have Z2:=Y2.turns ((aA.putObj ((W.setCell ⟨w.heap.size+1,0,none⟩ (.slice none 0 0)).setCell ⟨w.heap.size+1+1,0,none⟩ (.int .i64 3)) w4.heap.size (.deferred none)).mono (own':=λq=>q=w4.heap.size) λq h=>h) ae
    have Z3:=Y3.turns ((aA.putObj ((W.setCell ⟨w.heap.size+1,0,none⟩ (.slice none 0 0)).setCell ⟨w.heap.size+1+1,0,none⟩ (.int .i64 3)) w4.heap.size (.deferred none)).mono (own':=λq=>q=w4.heap.size) λq h=>h) ae;refine⟨_,Wq rfl _ _ _ _ _ _ rfl rfl (Z2.cell 0) (Z3.cell 0) underlying77 underlying34 rfl rfl,?_,.inl ⟨3,ae,.inr (.inr λm hm=>?_),rfl⟩⟩
    ·exact(aA.low cB.o hT (λk e=>ae)).trans (AO (w:=w) (aV _) _ _ _ _ ae hK1 rfl rfl)
    ·have e:ls.map (·.2)=yj (nL x):=O4.o;rw[←e]at hm;obtain⟨y,hy,rfl⟩:=dz.1 hm;exact H2.o.o y hy
   case stop=>
    rintro cd own xs W ⟨rfl,pre,y,h2,h3,h4,⟨h5,h6⟩,⟨⟨h7,h8⟩,h10⟩,h9⟩ ho hs hK;have HK:=U hK;have HA:=U (And.intro h2 (And.intro h3 h4));have wP:=U (And.intro h5 h6);have YE:=U h7;have GV:=U h10;have cB:=U h9;clear hK h2 h3 h4 h5 h6 h7 h10 h9;gi_wp2_with fail;refine⟨aj,.inl ⟨_,_,rfl,sO HK.o,?_⟩⟩;have hT:=(aA.putObj W w4.heap.size (.deferred none)).mono (own':=λq=>q=w4.heap.size) λq h=>h;have Z2:=wP.o.1.turns hT ae;have Z3:=wP.o.2.turns hT ae;have hrow:=fO YE.o hT (λk hk e=>(GV.o k hk).1 e);obtain⟨e1,e2,ys,e3,e4⟩:=HA.o;refine⟨_,Wq rfl _ _ _ _ _ _ rfl rfl (Z2.cell 0) (Z3.cell 0) underlying77 underlying34 rfl rfl,cB.o.trans (AO (w:=w) (aV _) W _ _ _ ae HK.o rfl rfl),.inr ⟨_,y.2,⟨HG.o.1,HG.o.2.1,HG.o.2.2,BV.o,?_⟩,rfl,EP (e:=82) hrow ae⟩⟩;obtain⟨post,e5⟩:=e4;refine⟨pre.map (·.2),post.map (·.2),?_,λm hm=>?_,e2.o.2⟩
    ·rw[←e3,←e5,e1];simp
    ·obtain⟨z,hz,rfl⟩:=dz.1 hm;exact e2.o.1 z hz
end
end Go.Proofs.YtfmckbjeofiegaaGreat
