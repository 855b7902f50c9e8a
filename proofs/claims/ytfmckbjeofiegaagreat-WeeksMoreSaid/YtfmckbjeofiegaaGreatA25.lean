/- Part 25 of a proof. -/
import Derived.Test.YtfmckbjeofiegaaGreatA23
import Derived.Test.YtfmckbjeofiegaaGreatA24
set_option maxRecDepth 100000
set_option maxHeartbeats 16000000
set_option linter.all false
open Go Go.RowKit Go.Proofs.Tryz
namespace Go.Proofs.YtfmckbjeofiegaaGreat
variable {a:Act}{af:Array Edge}{ops:Array Oper}{Q:Exit→Act→World→Prop}{f:aQ}{rest:List Oper}{cs:List Value}{i o:Nat}{P:Program}{α:Type}{ty:TypeId}{v vr vt:Value}{x:aJ}{W W' w':World}
section
attribute [local go_sem] Qv
theorem SL{w:World}{d:Option Nat}{t:TypeId}{pos:String}{parts:Array (Nat×Operand)}{vs:Array (Nat×Value)}(hb:∀W,(Instr.build t vs).run P W=.ok v W)(hp:parts.toList.map (λp=>(p.1,a.eval p.2))=vs.toList)(h:wpList P ops Q rest (a.put d v) w):wpList P ops Q (Oper.mk d (.build t parts) ty pos af none::rest) a w:=
 aB2 hb (Array.ext' (by rw[Array.toList_map];exact hp)) h
theorem aBI(s:vJ)(vt vb vr vs:Value)(w:World)(ht:aC Shape.pnt w vt s.trace)(hb:aC Shape.int w vb s.blots)(hp:fA s.paper=true)(hi:(jY s.paper s.trace s.blots).2=0)(hr:vr.oneCell'=true)(hs:vs.oneCell'=true):
  Calls prog 168 #[.agg (iq s vt vb vr vs).toArray] w λe w'=>∃(av:Option Addr) (nv cv:Nat),e=.returned (.agg #[.slice av nv cv])∧Shape.span.list.list.reads (λb=>w.heap.size≤b) w' [.slice av nv cv] (jY s.paper s.trace s.blots).1∧BL w w':=by
 have HT:=U (And.intro ht hb);have HP:=U hp;have OY:=U hi;clear ht hb hp hi;have X1:=(Bx.new (W:=w) (t:=61) (vs:=iq s vt vb vr vs) rfl).alloc (.cells #[.slice none 0 0] 244);have X2:=Bx.new (W:=w.alloc (.cells (iq s vt vb vr vs).toArray 61)) (B:=w.heap.size+1) (t:=244) (vs:=[.slice none 0 0]) aj;have HB0:=U (Bl.alloc (Bl.alloc (aB w.heap.size w) (.cells (iq s vt vb vr vs).toArray 61)) (.cells #[.slice none 0 0] 244));go_in;go_wp2_with (with_reducible_and_instances refine dI 6 ?_)
 have avs:w.heap.size+2≤((w.alloc (.cells (iq s vt vb vr vs).toArray 61)).alloc (.cells #[.slice none 0 0] 244)).heap.size:=aj;generalize (w.alloc (.cells (iq s vt vb vr vs).toArray 61)).alloc (.cells #[.slice none 0 0] 244)=w0 at *;refine⟨?_⟩;obtain⟨p0,p1,p2,p3,p4,p5,p6,p7,p8,p9⟩:=acB X1;obtain⟨ES,Gt,ET,Gu,oV,Dj,q16,Dk⟩:=Sa X1;go_wp2_with fail;refine(ah1 s.paper vt vb s.trace s.blots w0 (HT.o.1.below HB0.o) (HT.o.2.below HB0.o) HP.o).mono ?_;rintro e w1 ⟨av,nv,cv,q,rfl,hq,hre,hb1⟩;have hq0:q=0:=by rw[←hq,OY.o]
 subst hq0;have HR:=U (hre rfl);have X2:=X2.next hb1;have HB1:=U (Bl.call HB0.o hb1);have hz:=HB0.o.size;clear p0 p1 p2 p3 p4 p5 p6 p7 p8 p9 ES Gt ET Gu oV Dj q16 Dk hre hq;go_wp2_with (with_reducible_and_instances refine dI 15 ?_)
 have X3:=Bx.new (W:=w1) (t:=244) (vs:=[.slice av nv cv]) rfl;have X2:=X2.alloc (.cells #[.slice av nv cv] 244);have HB2:=U (Bl.alloc HB1.o (.cells #[.slice av nv cv] 244));have HR2:=U (Shape.span.list.list.keep HR.o (Same.below (Bl.alloc (aB w1.heap.size w1) (.cells #[.slice av nv cv] 244))));clear hb1;generalize w1.alloc (.cells #[.slice av nv cv] 244)=w2 at *;refine⟨?_⟩;have c3:=X3.cell 0;have c2:=X2.cell 0;have l2:=X2.lt;have f2:=X2.free 0;simp only[aK]at c3 c2;have l3:=X3.lt
 (try unfold BL at *);generalize w1.heap.size=b3 at *
 go_wp2_with fail;have X2f:=X2.set 0 (.slice av nv cv) aj;obtain⟨tR,uC,qL⟩:=X2f.obj aj;have hz2:=X2.lt;refine kE (Lb results168 _ _ _ tR _ uC _ rfl qL underlying244 rfl aF) rfl ⟨av,nv,cv,rfl,?_,Bl.setCell HB2.o (p:=⟨w.heap.size+1,0,none⟩) Ll _⟩;rw[(akx OY.o).1];exact Shape.span.list.list.mono (Shape.span.list.list.keep HR2.o (Same.set (p:=⟨w.heap.size+1,0,none⟩) (λh=>by have h:w0.heap.size≤w.heap.size+1:=h;omega) _)) λq _ h=>ae
def AQ(s:vJ)(vt vb vr vs vm zQ tk zP sZ aA8 aA7 vz:Value):List Value:=iq s vt vb vr vs++[vm,zQ,tk,zP,sZ,aA8,aA7,vz]
theorem aq1(s:vJ)(vt vb vr vs:Value)(am:Option Addr)(nm cm M:Nat)(tk:Int)(W:World):(Instr.build 133 #[(0,.agg (iq s vt vb vr vs).toArray),(1,.slice am nm cm),(3,.int .i64 tk),(7,.map (some M))]).run prog W=.ok (.agg (AQ s vt vb vr vs (.slice am nm cm) (.slice none 0 0) (.int .i64 tk) (.slice none 0 0) (.slice none 0 0) (.slice none 0 0) (.map (some M)) (.slice none 0 0)).toArray) W:=acK W _ _ _ aF
theorem dM.same{u w:World}(h:dM u x cs)(hu:Same (λ_=>True) u w):dM w x cs:=by
 obtain⟨va,vs,vr,h1,h2⟩:=h;exact⟨va,vs,vr,h1,⟨Shape.keep _ h2.stas hu,Shape.keep _ h2.sheets hu,Shape.keep _ h2.reads hu⟩⟩
theorem as0{vb vs vm vn yt yb yr ys ym yn:Value}(h:iW f vt vb vr vs vm vn=iW f yt yb yr ys ym yn):vt=yt∧vb=yb∧vr=yr∧vs=ys∧vm=ym:=by
 simp only[iW,iq,uR,gB,fE,oC,Js,qZ]at h;exact⟨h.1,h.2.1,h.2.2.1,h.2.2.2.1,h.2.2.2.2.1⟩
theorem asT(av:Option Addr)(nv cv:Nat)(w:World):(Instr.field 244 (.agg #[.slice av nv cv]) 0).run prog w=.ok (.slice av nv cv) w:=aF
attribute [local go_sem] asT
theorem La{s:Shape α}{C M:Nat}{Z:Nat→Prop}{a:α}(h:s.reads (λq=>q≠C∧q≠M∧Z q) W cs a)(t:aA (λq=>q=C∨W.heap.size≤q) W W'):s.reads (λq=>q≠C∧q≠M∧Z q) W' cs a:=
 s.keep h (t.same λb hb hl o=>by rcases o with o|o;exact hb.1 o;omega)
structure JE(Z:Nat→Prop)(x:aJ)(f:aQ)(st:Int)(C M:Nat)(cs:List Value)(w:World):Prop where
 bx:Bx C cs w
 ne:C≠M
 sht:∃vt vb vr vs vm zQ tk zP sZ vz,cs=AQ f.sheet vt vb vr vs vm zQ tk zP sZ (.slice none 0 0) (.map (some M)) vz∧tk=.int .i64 x.ticks∧nU (λq=>q≠C∧q≠M∧Z q) w f.sheet vt vb vr vs∧Shape.trip.list.reads (λq=>q≠C∧q≠M∧Z q) w [vm] f.marks∧Shape.rdg.list.reads (λq=>q≠C∧q≠M∧Z q) w [zQ] (xU x st)∧Shape.span.list.list.reads (λq=>q≠C∧q≠M∧Z q) w [zP] (jP f)∧Shape.span.list.reads (λq=>q≠C∧q≠M∧Z q) w [sZ] (df f)∧Shape.int.list.reads (λq=>q≠C∧q≠M∧Z q) w [vz] (iw f)
 ix:jG w M []
def apZ(Z:Nat→Prop)(x:aJ)(f:aQ)(st:Int)(w:World)(e:Ending)(w':World):Prop:=∃C M cs,e=.returned (.pointer (some ⟨C,0,none⟩))∧JE Z x f st C M cs w'∧w.heap.size≤C∧w.heap.size≤M∧BL w w'
theorem anK(x:aJ)(f:aQ)(cx cf:List Value)(st:Int)(u w:World)(hu:Same (λ_=>True) u w)(hxu:dM u x cx)(hfu:nW u f cf)(h1:fA f.sheet.paper=true)(h2:(jY f.sheet.paper f.sheet.trace f.sheet.blots).2=0)(h3:jQ f.sheet.drum=true)(h4:Bu f.sheet.band f.sheet.zlo f.sheet.zhi f.sheet.rate=true)(h5:x.reads.length≤64):
  Calls prog 110 #[.agg cx.toArray,.agg cf.toArray,st] w (apZ (λq=>q<u.heap.size∨w.heap.size≤q) x f st w):=by
 have hx:=hxu.same hu;have hf:nW w f cf:=Shape.fil.keep hfu hu;have JU:=U hu;have hsu:=hu.size;have HFU:=U hfu;clear hxu hfu hu;obtain⟨va,vs,vr,rfl,hX⟩:=hx;obtain⟨vt,vb,vra,iO,vm,vn,rfl,⟨ht1,ht2,ht3,IX⟩,hm,hn⟩:=hf;obtain⟨ar,cr,rfl,hr1,hr2⟩:=aC.shape ht3;obtain⟨am,cm,rfl,hm1,hm2⟩:=aC.shape hm;obtain⟨ML,M0,rfl,hd1,hd2⟩:=hX.reads.shape;obtain⟨nr,hnr⟩:∃n:Nat,Hid (x.reads.length=n):=⟨_,U rfl⟩;have PE:=U hX.reads;have HT:=U (And.intro ht1 (And.intro ht2 (And.intro ht3 IX)));have HM:=U hm;have yO:=U (Lr (s:=f.sheet) (nP ht1) (nP ht2) (nP ht3) (nP IX));have fu:=U (nP IX);have H1:=U h1;have H2:=U h2;have H3:=U h3;have H4:=U h4;clear hX ht1 ht2 ht3 IX hm hn h1 h2 h3 h4;unfold maxLen at hr2 hm2 hd2;have X2:=(Bx.new (W:=w) (t:=30) (vs:=dm x va vs (.slice ML x.reads.length M0)) rfl).alloc (.cells (iW f vt vb (.slice ar f.sheet.drum.1.length cr) iO (.slice am f.marks.length cm) vn).toArray 65);have X3:=Bx.new (W:=w.alloc (.cells (dm x va vs (.slice ML x.reads.length M0)).toArray 30)) (B:=w.heap.size+1) (t:=65) (vs:=iW f vt vb (.slice ar f.sheet.drum.1.length cr) iO (.slice am f.marks.length cm) vn) aj
 have HB0:=U (Bl.alloc (Bl.alloc (aB w.heap.size w) (.cells (dm x va vs (.slice ML x.reads.length M0)).toArray 30)) (.cells (iW f vt vb (.slice ar f.sheet.drum.1.length cr) iO (.slice am f.marks.length cm) vn).toArray 65));go_in;go_wp2_with (with_reducible_and_instances refine dI 14 ?_)
 have avs:w.heap.size+2≤((w.alloc (.cells (dm x va vs (.slice ML x.reads.length M0)).toArray 30)).alloc (.cells (iW f vt vb (.slice ar f.sheet.drum.1.length cr) iO (.slice am f.marks.length cm) vn).toArray 65)).heap.size:=aj;generalize (w.alloc (.cells (dm x va vs (.slice ML x.reads.length M0)).toArray 30)).alloc (.cells (iW f vt vb (.slice ar f.sheet.drum.1.length cr) iO (.slice am f.marks.length cm) vn).toArray 65)=w0 at *;refine⟨?_⟩;have c24:=X2.cell 4;have Qu:=X3.cell 22;simp only[dm,iW,iq,uR,fE,gB,aK,bB]at c24 Qu;have vC:Hid (Cx (w.heap.size+1) 4 (iq f.sheet vt vb (.slice ar f.sheet.drum.1.length cr) iO) w0):=U (Cx.part (n:=18) X3 rfl);have OL:=U (aq1 f.sheet vt vb (.slice ar f.sheet.drum.1.length cr) iO am f.marks.length cm w0.heap.size x.ticks);go_wp2_with (first|(refine dh fZ rfl vC.o rfl ?_)|(refine aB6 ?_)|(with_reducible_and_instances refine dI 22 ?_))
 refine⟨?_⟩;refine SL OL.o rfl ?_;go_wp2_with (with_reducible_and_instances refine dI 24 ?_)
 have XC:=Bx.new (W:=w0.alloc (.map #[] 0)) (B:=w0.heap.size+1) (t:=133) (vs:=AQ f.sheet vt vb (.slice ar f.sheet.drum.1.length cr) iO (.slice am f.marks.length cm) (.slice none 0 0) (.int .i64 x.ticks) (.slice none 0 0) (.slice none 0 0) (.slice none 0 0) (.map (some w0.heap.size)) (.slice none 0 0)) aj;have OZ:=U ((jG.made w0).below (Bl.alloc (aB _ _) (.cells (AQ f.sheet vt vb (.slice ar f.sheet.drum.1.length cr) iO (.slice am f.marks.length cm) (.slice none 0 0) (.int .i64 x.ticks) (.slice none 0 0) (.slice none 0 0) (.slice none 0 0) (.map (some w0.heap.size)) (.slice none 0 0)).toArray 133)));have abh:=Bl.alloc (Bl.alloc (aB w0.heap.size w0) (.map #[] 0)) (.cells (AQ f.sheet vt vb (.slice ar f.sheet.drum.1.length cr) iO (.slice am f.marks.length cm) (.slice none 0 0) (.int .i64 x.ticks) (.slice none 0 0) (.slice none 0 0) (.slice none 0 0) (.map (some w0.heap.size)) (.slice none 0 0)).toArray 133);have X2:=X2.next abh;have HB1:=U (Bl.call HB0.o abh);have uE:=XC.lt;have hzB:=HB0.o.size;clear abh HB0 c24 Qu vC OL X3
 generalize (w0.alloc (.map #[] 0)).alloc (.cells (AQ f.sheet vt vb (.slice ar f.sheet.drum.1.length cr) iO (.slice am f.marks.length cm) (.slice none 0 0) (.int .i64 x.ticks) (.slice none 0 0) (.slice none 0 0) (.slice none 0 0) (.map (some w0.heap.size)) (.slice none 0 0)).toArray 133)=w1 at *;obtain⟨C,hC⟩:∃C,C=w0.heap.size+1:=⟨_,rfl⟩;rw[←hC]at XC uE ⊢
 (try unfold BL at *);generalize w0.heap.size=M at *
 have hCM:M<C:=ae;clear hC;refine⟨?_⟩;have c28:=X2.cell 8;rw[hnr.o]at hd1 X2;have af6:Hid (aC Shape.rdg w (.slice ML nr M0) x.reads):=U (by have:=PE.o;rw[hnr.o]at this;exact this);simp only[dm,aK,bB,hnr.o]at c28;obtain⟨i0,hi,hz0,hz1,hz2⟩:=dY (show(prog.info? 43).map (λi=>(i.zero,i.size,i.bytes))=some (some (.agg #[.int .i64 0,.int .i64 0,.int .i64 0,.int .i64 0,.int .i64 0]),5,40)from aF);have bZ:=U XC;have l2:=X2.lt;clear XC;go_wp2
 go_loopw [27] (λzH wr=>∃(k:Nat) (v:Value),k≤nr∧zH=.int .i64 k∧Hid (Bx C (AQ f.sheet vt vb (.slice ar f.sheet.drum.1.length cr) iO (.slice am f.marks.length cm) v (.int .i64 x.ticks) (.slice none 0 0) (.slice none 0 0) (.slice none 0 0) (.map (some M)) (.slice none 0 0)) wr)∧Hid (jd 43 5 ayx w1.heap.size wr v ((x.reads.take k).filter λr=>decide (r.1=st)))∧Hid (aA (λq=>q=C∨w1.heap.size≤q) w1 wr)) (λzH _=>nr-(intOf zH).toNat)
 case atStart=>exact⟨0,.slice none 0 0,ae,rfl,bZ,U (Di aj),U (aA.refl _ _)⟩
 case round=>
  clear bZ;obtain⟨k,v,hk,rfl,HX,HO,HT1⟩:=hrel;have fP:=U (aA.below HB1.o HT1.o ae (λq h=>Gw));have hzT:=HT1.o.size;by_cases hlt:k<nr
  ·obtain⟨b,o,e1,d1,d2,d3,d4,d5⟩:=(af6.o.below fP.o).rdg_at (k:=k) VB;subst e1;have lb:=fe _ _ d1;dsimp only at lb;have kR:Hid (x.reads.take (k+1)=x.reads.take k++[x.reads[k]' VB]):=U (jF VB);have HLEN:Hid (((x.reads.take k).filter λr=>decide (r.1=st)).length≤k):=U (fK (FV _ _) bC);generalize x.reads[k]' VB=r at *;obtain⟨r1,r2,r3,r4,r5⟩:=r;simp only at d1 d2 d3 d4 d5;have i1:(0:Int)≤(k:Int):=ae;have i2:(k:Int)<(nr:Int):=ae;have aDW:nr≤64:=VB;obtain⟨av,cv,ev⟩:=lu HO.o;obtain⟨N,hN⟩:=nm (((x.reads.take k).filter λr=>decide (r.1=st)).length);rw[hN.o]at ev HLEN;subst ev;have aDe:N≤64:=aa5;go_wp2_with (with_reducible_and_instances refine dI 31 ?_)
   have hbl:=Bl.alloc (aB wr.heap.size wr) (.cells #[r1,r2,r3,r4,r5] 43);have X9:=Bx.new (W:=wr) (t:=43) (vs:=[.int .i64 r1,.int .i64 r2,.int .i64 r3,.int .i64 r4,.int .i64 r5]) rfl;have PH:=U (HX.o.next hbl);have Mf:=U (il HO.o hbl);have TM:=U (HT1.o.trans (aA.of_below hbl));clear HX HO HT1 fP hbl d1 d2 d3 d4 d5 lb;generalize wr.alloc (.cells #[r1,r2,r3,r4,r5] 43)=wa at *
   (try unfold BL at *);generalize wr.heap.size=b9 at *
   refine⟨?_⟩;have e1:=X9.cell 0;have e2:=X9.cell 1;have e3:=X9.cell 2;have e4:=X9.cell 3;have e5:=X9.cell 4;have l9:=X9.lt;simp only[aK,bB]at e1 e2 e3 e4 e5;by_cases hst:r1=st
   ·have Yk:Hid ((x.reads.take (k+1)).filter (λr=>decide (r.1=st))=(x.reads.take k).filter (λr=>decide (r.1=st))++[(r1,r2,r3,r4,r5)]):=U ayS;have q1:(r1==st)=true:=by simpa using hst
    have HX:=PH;have q19:=PH.o.cell 19;have lC:=PH.o.lt;replace q19:wa.cell? ⟨C,19,none⟩=some (.slice av N cv):=q19;have HO:=Mf;have gM:=HO.o;unfold jd at gM;rw[hN.o]at gM;replace HO:=U gM;clear gM PH Mf hst;go_wp2;refine iQ [7,10] [6,7,10] 1 [0,1,2,3] [(0,[4,5],6),(1,[],7),(0,[8,9],10)] [] [_,_,_,_] [(0,[_,_],6,_),(1,[],7,_),(0,[_,_],10,_)] [] ?_
    (repeat(go_big_quiet_step (first|fail)));refine aH (ku ?_)
    (repeat(first|(go_big_quiet_want;(first|apply bH eH bK rfl|apply bH eU bK rfl|apply bH eH gH rfl|apply bH eU gH rfl|apply bH eH fZ rfl|apply bH eU fZ rfl|apply bH eH mV rfl|apply bH eU mV rfl);(focus exact AU);(focus exact rfl);go_big_quiet_op;go_big_quiet_on)|go_big_quiet_step (fail)));refine aH ?_
    intro w2 hb2;have bL:=U (gV HO.o hb2);have hsz2:=hb2.size;go_wp2;refine dZ (Bl.alloc hb2 _) (rW ?_);go_wp2_with (at_builtin;go_loud (refine iE (bL.o.alloc _) ⟨w2.heap.size,0,none⟩ 1 1 [r1,r2,r3,r4,r5] hi hz0 hz1 hz2 ?_);intro v5 w4 hown' hgrow bY;obtain⟨a9,c9,rfl⟩:=bv hown')
    refine bS _ rfl (iP ?_);have HF:=U (Ep (c:=19) HX.o hb2 HO.o hown' hgrow bY ae rfl);obtain⟨zF,zR⟩:=HF.o.1
    (repeat(go_big_quiet_step (fail)));refine aH ?_
    intro nq;go_wp2;refine bS _ rfl (jl ?_);obtain⟨hx5,jX,t5,s5⟩:=HF.o.2 nq;have aU:=U hx5;have iA:=U jX;have T5:=U t5;have S5:=U s5;clear hx5 jX t5 s5 HF zF zR hgrow bY bL hown' hb2 hsz2;go_wp2;go_roundw
    case rel=>
     refine⟨k+1,.slice a9 (N+1) c9,ae,aY,U aU.o,U ?_,U (TM.o.trans (T5.o.mono λq o=>ayt))⟩;rw[Yk.o];exact xk iA.o RY rfl
    case measure=>exact aFF
   ·have Yk:Hid ((x.reads.take (k+1)).filter (λr=>decide (r.1=st))=(x.reads.take k).filter (λr=>decide (r.1=st))):=U ayS;have q1:(r1==st)=false:=by simpa using hst
    clear hst;go_wp2;go_roundw
    case rel=>exact⟨k+1,_,ae,aY,PH,U (by rw[Yk.o];exact Mf.o),TM⟩
    case measure=>exact aFF
  ·obtain rfl:k=nr:=ae;have jM:Hid ((x.reads.take k).filter (λr=>decide (r.1=st))=xU x st):=U (by rw[←hnr.o,jc];rfl);rw[jM.o]at HO;obtain⟨av,cv,ev⟩:=lu HO.o;obtain⟨N,hN⟩:=nm ((xU x st).length);rw[hN.o]at ev;subst ev;have jV:Hid (Cx C 0 (iq f.sheet vt vb (.slice ar f.sheet.drum.1.length cr) iO) wr):=U (Cx.part (n:=18) HX.o rfl);go_wp2_with (first|(refine dh fZ rfl jV.o rfl ?_)|(with_reducible_and_instances refine dI 51 ?_))
   refine⟨?_⟩;go_wp2_with fail;refine(aBI f.sheet vt vb (.slice ar f.sheet.drum.1.length cr) iO wr (aC.below HT.o.1 fP.o) (aC.below HT.o.2.1 fP.o) H1.o H2.o rfl fu.o).mono ?_;rintro e w4 ⟨av4,nv4,cv4,rfl,hr4,hb4⟩;have X4:=HX.o.next hb4;have c21:=X4.cell 21;have f21:=X4.free 21;have lC4:=X4.lt;replace c21:w4.cell? ⟨C,21,none⟩=some (.slice none 0 0):=c21;have HR4:=U hr4;have bX:=U hb4;have EG:=hb4.size;have afv:Hid (Shape.rdg.list.reads (λq=>q≠C∧q≠M∧(q<u.heap.size∨w.heap.size≤q)) w4 [.slice av N cv] (xU x st)):=U (xh yE (Ja yE (by have:=il HO.o hb4;exact this)) (λq hq=>ajh));clear X4 hr4 hb4 jV;go_wp2_with (with_reducible_and_instances refine dI 56 ?_)
   have aU:=U ((HX.o.next bX.o).set 21 (.slice av4 nv4 cv4) (by simp[AQ,iq,uR]));have htS:aA (λq=>q=C∨w4.heap.size≤q) w4 (w4.setCell ⟨C,21,none⟩ (.slice av4 nv4 cv4)):=aA.setCell _ _ _ _ (.inl rfl);have Hq:=U ((HT1.o.trans (aA.of_below bX.o)).trans (aA.setCell (λq=>q=C∨w1.heap.size≤q) w4 ⟨C,21,none⟩ (.slice av4 nv4 cv4) (.inl rfl)));have afw:=U (La afv.o htS);have aeV:Hid (Shape.span.list.list.reads (λq=>q≠C∧q≠M∧(q<u.heap.size∨w.heap.size≤q)) (w4.setCell ⟨C,21,none⟩ (.slice av4 nv4 cv4)) [.slice av4 nv4 cv4] (jP f)):=U (La (Shape.mono _ HR4.o λq _ h=>ae) htS);have aEh:w1.heap.size≤(w4.setCell ⟨C,21,none⟩ (.slice av4 nv4 cv4)).heap.size:=Hq.o.size;clear c21 f21 lC4 htS HR4 bX afv HX HO HT1 fP EG hzT jM hN PE af6;generalize w4.setCell ⟨C,21,none⟩ (.slice av4 nv4 cv4)=w5 at *;replace aU:Hid (Bx C (AQ f.sheet vt vb (.slice ar f.sheet.drum.1.length cr) iO (.slice am f.marks.length cm) (.slice av N cv) (.int .i64 x.ticks) (.slice av4 nv4 cv4) (.slice none 0 0) (.slice none 0 0) (.map (some M)) (.slice none 0 0)) w5):=aU;refine⟨?_⟩;obtain⟨nd,hnd⟩:∃n:Nat,Hid (f.sheet.drum.1.length=n):=⟨_,U rfl⟩
   have hnb:nd≤199:=by
    have:=H3.o;unfold jQ at this;simp only[Bool.and_eq_true,decide_eq_true_eq]at this;have:=hnd.o;omega
   have c12:=aU.o.cell 12;replace c12:w5.cell? ⟨C,12,none⟩=some (.slice ar nd cr):=by rw[←hnd.o];exact c12
   have HDR:Hid (aC Shape.span w (.slice ar nd cr) f.sheet.drum.1):=U (by have:=HT.o.2.2.1;rw[hnd.o]at this;exact this);go_wp2_with fail;obtain⟨i0,hi,hz0,hz1,hz2⟩:=dY (show(prog.info? 41).map (λi=>(i.zero,i.size,i.bytes))=some (some (.agg #[.int .i64 0,.int .i64 0]),2,16)from aF);clear c12
   go_loopw [62] (λs62 wr=>∃(k:Nat) (v:Value),k≤nd∧s62=.int .i64 k∧Hid (Bx C (AQ f.sheet vt vb (.slice ar f.sheet.drum.1.length cr) iO (.slice am f.marks.length cm) (.slice av N cv) (.int .i64 x.ticks) (.slice av4 nv4 cv4) v (.slice none 0 0) (.map (some M)) (.slice none 0 0)) wr)∧Hid (bG w5.heap.size wr v ((jg f.sheet.drum).take k))∧Hid (aA (λq=>q=C∨w5.heap.size≤q) w5 wr)) (λs62 _=>nd-(intOf s62).toNat)
   case atStart=>exact⟨0,.slice none 0 0,ae,rfl,aU,U (yC aj),U (aA.refl _ _)⟩
   case round=>
    clear aU;obtain⟨k2,v,hk2,rfl,HX,HO,D6⟩:=hrel;have hzT:=D6.o.size;have fP:=U (aA.below (aA.below HB1.o Hq.o ae (λq h=>Gw)) D6.o ae (λq h=>Gw));by_cases hlt2:k2<nd
    ·have kR:Hid ((jg f.sheet.drum).take (k2+1)=(jg f.sheet.drum).take k2++[zm f.sheet.drum k2]):=U (by
      have hl:k2<(jg f.sheet.drum).length:=by rw[Vb];have:=hnd.o;omega
      rw[jF hl,aiu hl])
     have HLEN:Hid (((jg f.sheet.drum).take k2).length=k2):=U (by rw[oF,Vb];have:=hnd.o;omega);have i1:(0:Int)≤(k2:Int):=ae;have i2:(k2:Int)<(nd:Int):=ae;have c12:=HX.o.cell 12;have c13:=HX.o.cell 13;have lC:=HX.o.lt;replace c12:wr.cell? ⟨C,12,none⟩=some (.slice ar nd cr):=by rw[←hnd.o];exact c12
     replace c13:wr.cell? ⟨C,13,none⟩=some iO:=c13;obtain⟨avg,cvg,ev⟩:=bv HO.o;rw[HLEN.o]at ev;subst ev;go_wp2_with fail;refine(aq5 (.slice ar nd cr) iO f.sheet.drum k2 wr (HDR.o.below fP.o) (aC.below HT.o.2.2.2 fP.o) H3.o (by have:=hnd.o;omega)).mono ?_;rintro e w7 ⟨rfl,bV⟩;have bD:=U (HX.o.next bV);have He:=U (fq HO.o bV);have Pn:=U (D6.o.trans (aA.of_below bV));have uJ:=bV.size;obtain⟨g1,hg1⟩:∃g,Hid ((zm f.sheet.drum k2).1=g):=⟨_,U rfl⟩;obtain⟨g2,hg2⟩:∃g,Hid ((zm f.sheet.drum k2).2=g):=⟨_,U rfl⟩;rw[hg1.o,hg2.o];clear c12 c13 lC HX HO D6 fP bV;go_wp2_with (with_reducible_and_instances refine dI 77 ?_)
     have hbl:=Bl.alloc (aB w7.heap.size w7) (.cells #[g1,g2] 41);have X9:=Bx.new (W:=w7) (t:=41) (vs:=[.int .i64 g1,.int .i64 g2]) rfl;have HX:=U (bD.o.next hbl);have Mf:=U (fq He.o hbl);have TM:=U (Pn.o.trans (aA.of_below hbl));clear bD He Pn hbl;generalize w7.alloc (.cells #[g1,g2] 41)=wa at *
     (try unfold BL at *);generalize w7.heap.size=b9 at *
     have e1:=X9.cell 0;have e2:=X9.cell 1;have l9:=X9.lt;simp only[aK,bB]at e1 e2;have q22:=HX.o.cell 22;have lC:=HX.o.lt;replace q22:wa.cell? ⟨C,22,none⟩=some (.slice avg k2 cvg):=q22;have gM:=Mf.o;unfold bG at gM;rw[HLEN.o]at gM;have HO:=U gM;clear gM Mf X9;refine iQ [7,10] [6,7,10] 1 [0,1,2,3] [(0,[4,5],6),(1,[],7),(0,[8,9],10)] [] [_,_,_,_] [(0,[_,_],6,_),(1,[],7,_),(0,[_,_],10,_)] [] ?_
     (repeat(go_big_quiet_step (first|fail)));refine aH (ku ?_)
     (repeat(first|(go_big_quiet_want;(first|apply bH eH bK rfl|apply bH eU bK rfl|apply bH eH gH rfl|apply bH eU gH rfl|apply bH eH fZ rfl|apply bH eU fZ rfl|apply bH eH mV rfl|apply bH eU mV rfl);(focus exact AU);(focus exact rfl);go_big_quiet_op;go_big_quiet_on)|go_big_quiet_step (fail)));refine aH ?_
     intro w2 hb2;have bL:=U (gV HO.o hb2);have hsz2:=hb2.size;go_wp2;refine dZ (Bl.alloc hb2 _) (rW ?_);go_wp2_with (at_builtin;go_loud (refine iE (bL.o.alloc _) ⟨w2.heap.size,0,none⟩ 1 1 [g1,g2] hi hz0 hz1 hz2 ?_);intro v5 w4 hown' hgrow bY;obtain⟨a9,c9,rfl⟩:=bv hown')
     refine bS _ rfl (iP ?_);have HF:=U (Ep (c:=22) HX.o hb2 HO.o hown' hgrow bY ae rfl);obtain⟨zF,zR⟩:=HF.o.1
     (repeat(go_big_quiet_step (fail)));refine aH ?_
     intro nq;go_wp2;refine bS _ rfl (jl ?_);obtain⟨hx5,jX,t5,s5⟩:=HF.o.2 nq;have aU:=U hx5;have iA:=U jX;have T5:=U t5;have S5:=U s5;clear hx5 jX t5 s5 HF zF zR hgrow bY bL hown' hb2 hsz2;go_wp2;go_roundw
     case rel=>
      refine⟨k2+1,.slice a9 (k2+1) c9,ae,aY,U aU.o,U ?_,U (TM.o.trans (T5.o.mono λq o=>ayt))⟩;rw[kR.o,show zm f.sheet.drum k2=(g1,g2) by rw[←hg1.o,←hg2.o]];exact wW iA.o (by rw[HLEN.o])
     case measure=>exact aFF
    ·obtain rfl:k2=nd:=ae;have L8:Hid ((jg f.sheet.drum).take k2=df f):=U (FY (by rw[Vb];have:=hnd.o;omega));rw[L8.o]at HO;have apc:=U (La afw.o D6.o);have aoC:=U (La aeV.o D6.o);have aoA:Hid (Shape.span.list.reads (λq=>q≠C∧q≠M∧(q<u.heap.size∨w.heap.size≤q)) wr [v] (df f)):=U (xh mE (jT HO.o) (λq hq=>ajh));have Pn:=U (Hq.o.trans (D6.o.mono (own':=λq=>q=C∨w1.heap.size≤q) λq h=>alS));have vR:w1.heap.size≤wr.heap.size:=ae;have c15:=HX.o.cell 15;have lC:=HX.o.lt;replace c15:wr.cell? ⟨C,15,none⟩=some (.int .i64 f.sheet.zlo):=c15
     have hpb:f.sheet.zlo≤f.sheet.zhi∧-200≤f.sheet.zlo∧f.sheet.zhi≤200:=by
      have:=H4.o;unfold Bu at this;have:=of_decide_eq_true this;omega
     obtain⟨hp1,hp2,hp3⟩:=hpb;obtain⟨ag2,cg2,ev⟩:=bv HO.o;obtain⟨ng,hng⟩:∃n,Hid ((df f).length=n):=⟨_,U rfl⟩;rw[hng.o]at ev;subst ev;have bE:=U HX.o;clear HX HO afw aeV Hq D6 fP;obtain⟨i0,hi,hz0,hz1,hz2⟩:=dY (show(prog.info? 3).map (λi=>(i.zero,i.size,i.bytes))=some (some (.int .i64 0),1,8)from aF);go_wp2_with fail;obtain⟨w8,rfl⟩:∃w8:World,w8=wr:=⟨_,rfl⟩
     go_loopw [13] (λs13 wr=>∃(k3:Nat) (v:Value),(k3:Int)≤f.sheet.zhi+1-f.sheet.zlo∧s13=.int .i64 (f.sheet.zlo+(k3:Int))∧Hid (Bx C (AQ f.sheet vt vb (.slice ar f.sheet.drum.1.length cr) iO (.slice am f.marks.length cm) (.slice av N cv) (.int .i64 x.ticks) (.slice av4 nv4 cv4) (.slice ag2 ng cg2) (.slice none 0 0) (.map (some M)) v) wr)∧Hid (pK 3 w8.heap.size wr v ((List.range k3).map λ(j:Nat)=>f.sheet.zlo+(j:Int)))∧Hid (aA (λq=>q=C∨w8.heap.size≤q) w8 wr)) (λs13 _=>(f.sheet.zhi+1-intOf s13).toNat)
     case atStart=>exact⟨0,.slice none 0 0,ae,aj,bE,U (Di aj),U (aA.refl _ _)⟩
     case round=>
      clear bE;obtain⟨k3,v,hk3,rfl,HX,HO,JQ⟩:=hrel;have hzT:=JQ.o.size;have c16:=HX.o.cell 16;have lC:=HX.o.lt;replace c16:wr.cell? ⟨C,16,none⟩=some (.int .i64 f.sheet.zhi):=c16;obtain⟨z,hzz⟩:=nm (f.sheet.zlo+(k3:Int));by_cases hle:f.sheet.zlo+(k3:Int)≤f.sheet.zhi
      ·rw[hzz.o]at hle ⊢;have hzb:-1000≤z∧z≤1000:=by have:=hzz.o;omega
       obtain⟨aEp,aEq⟩:=hzb;obtain⟨ZY,cvz,ev⟩:=bv HO.o;rw[show((List.range k3).map λ(j:Nat)=>f.sheet.zlo+(j:Int)).length=k3 from aj]at ev;subst ev;have NU:=HX.o.cell 25;replace NU:wr.cell? ⟨C,25,none⟩=some (.slice ZY k3 cvz):=NU;have gM:=HO.o;unfold pK jd at gM;rw[show((List.range k3).map λ(j:Nat)=>f.sheet.zlo+(j:Int)).length=k3 from aj]at gM;have xK:=HO;replace HO:=U gM;have aDC:k3≤1000:=ae;have wz:IntKind.i64.wrap (z+1)=z+1:=dE _ ae;clear gM xK;have Iz:=U (λq (e:(Value.slice ZY k3 cvz).ownBlock=some q)=>(HO.o.lt q e).1);go_wp2_with (at_builtin;go_loud (refine iE (HO.o.alloc _) ⟨wr.heap.size,0,none⟩ 1 1 [z] hi hz0 hz1 hz2 ?_);intro v' w4 hown' hgrow bY;obtain⟨a9,c9,rfl⟩:=bv hown';have oM:=(HX.o.alloc (.cells #[z] 3)).grown hgrow (λe=>by have:=Iz.o _ e.symm;omega);have q7:=oM.cell 25;replace q7:w4.cell? ⟨C,25,none⟩=some (.slice ZY k3 cvz):=q7;have z7:=oM.free 25;have VX:=oM.lt)
       have Zc:=U oM;have HOW:=U hown';have Ae:=U hgrow;clear oM hown' hgrow;go_roundw
       case rel=>
        have HT4:aA (λq=>q=C∨w8.heap.size≤q) wr (w4.setCell ⟨C,25,none⟩ (.slice a9 (k3+1) c9)):=((aA.alloc (λq=>q=C∨w8.heap.size≤q) wr (.cells #[z] 3)).trans (aA.grown Ae.o (λq hq=>.inr (Iz.o q hq)))).trans (aA.setCell _ _ _ _ (.inl rfl));refine⟨k3+1,.slice a9 (k3+1) c9,by have:=hzz.o;omega,by rw[show z+1=f.sheet.zlo+((k3+1:Nat):Int) by have:=hzz.o;omega],U (Zc.o.set 25 (.slice a9 (k3+1) c9) (by simp[AQ,iq,uR])),U ?_,U (JQ.o.trans HT4)⟩;rw[jq,iT];exact xk (fO HOW.o (aA.setCell (λq=>q=C) w4 ⟨C,25,none⟩ (.slice a9 (k3+1) c9) rfl) (λq hq e=>ajj)) aj (by simp[hzz.o])
       case measure=>exact aFF
      ·have hE:(f.sheet.zhi+1-f.sheet.zlo).toNat=k3:=ae;have HZL:Hid ((List.range k3).map (λ(j:Nat)=>f.sheet.zlo+(j:Int))=iw f):=U (by unfold iw;rw[hE]);rw[HZL.o]at HO;rw[hzz.o]at hle ⊢;clear hE;go_wp2;go_ret;have cZ:=aA.below HB1.o Pn.o ae (λq h=>Gw);have LW:=aA.below cZ JQ.o (by have:=cZ.size;omega) (λq h=>by have:=cZ.size;rcases h with h|h<;>omega)
       have Fp:Hid (nU (λ_=>True) u f.sheet vt vb (.slice ar f.sheet.drum.1.length cr) iO∧Shape.trip.list.reads (λ_=>True) u [.slice am f.marks.length cm] f.marks):=U (by
        obtain⟨yt,yb,yr,ys,ym,yn,ey,hy,hmy,_⟩:=HFU.o;obtain⟨e1,e2,e3,e4,e5⟩:=as0 ey;subst e1 e2 e3 e4 e5
        exact⟨hy,hmy⟩)
       have hSM:Same (λq=>q≠C∧q≠M∧(q<u.heap.size∨w.heap.size≤q)) u wr:=(JU.o.mono λ_ _=>trivial).trans (Same.below LW);have Vq:nU (λq=>q≠C∧q≠M∧(q<u.heap.size∨w.heap.size≤q)) wr f.sheet vt vb (.slice ar f.sheet.drum.1.length cr) iO:=(nU.mono Fp.o.1 (λb hb _=>by show b≠C∧b≠M∧_;omega)).keep hSM;have hMK:Shape.trip.list.reads (λq=>q≠C∧q≠M∧(q<u.heap.size∨w.heap.size≤q)) wr [.slice am f.marks.length cm] f.marks:=Shape.keep _ (Shape.mono _ Fp.o.2 (λb hb _=>by show b≠C∧b≠M∧_;omega)) hSM;exact⟨C,M,_,rfl,⟨HX.o,ae,⟨vt,vb,_,iO,_,_,_,_,_,v,rfl,rfl,Vq,hMK,La apc.o JQ.o,La aoC.o JQ.o,by have:=La aoA.o JQ.o;exact this,xh yD (RG HO.o) (λq hq=>ajh)⟩,(OZ.o.turns Pn.o (λh=>Gw)).turns JQ.o (λh=>Gw)⟩,ae,ae,LW⟩
theorem JE.m{Z:Nat→Prop}{st:Int}{C M:Nat}{w:World}(h:JE Z x f st C M cs w):LU x f st C cs w:=by
 obtain⟨vt,vb,vr,vs,vm,zQ,tk,zP,sZ,vz,rfl,rfl,_,h2,h3,h4,h5,h6⟩:=h.sht;exact⟨h.bx,⟨rfl,rfl,rfl,rfl⟩,⟨vm,rfl,Shape.list_far h2⟩,⟨zQ,rfl,Shape.list_far h3⟩,rfl,⟨zP,rfl,Shape.list_far h4⟩,⟨sZ,rfl,Shape.list_far h5⟩,⟨vz,rfl,Shape.list_far h6⟩⟩
theorem JE.done{Z:Nat→Prop}{st:Int}{C M:Nat}{w:World}(h:JE Z x f st C M cs w)(hl:Shape.trip.list.reads Z w' [v] (aL x f))(hb:Bx C (cs.set 23 v) w')(hi:jG w' M (aL x f))(ht:aA (λb=>b=C∨b=M) w w')(hC:Z C)(hM:Z M)(W:World)(hW:Same Z w' W):mI x f st C (cs.set 23 v) W:=by
 obtain⟨vt,vb,vr,vs,vm,zQ,tk,zP,sZ,vz,rfl,rfl,_,h2,h3,h4,h5,h6⟩:=h.sht;have k:∀ {α:Type} {s:Shape α} {u:Value} {l:List α},s.list.reads (λq=>q≠C∧q≠M∧Z q) w [u] l→aC s W u l:=fun {_ s _ _} hh=>Shape.list_far (s.list.keep (s.list.mono (s.list.keep hh (ht.same λb hb _ o=>by rcases o with o|o;exact hb.1 o;exact hb.2.1 o)) (λb _ hb=>hb.2.2)) hW);exact⟨⟨hb.block (hW.block _ hC hb.lt) hW.size,⟨rfl,rfl,rfl,rfl⟩,⟨vm,rfl,k h2⟩,⟨zQ,rfl,k h3⟩,rfl,⟨zP,rfl,k h4⟩,⟨sZ,rfl,k h5⟩,⟨vz,rfl,k h6⟩⟩,⟨v,rfl,Shape.list_far (Shape.keep _ hl hW)⟩,⟨M,rfl,hi.block (hW.block _ hM hi.lt)⟩⟩
def aod(u:World)(x:aJ)(f:aQ)(w:World)(e:Ending)(w':World):Prop:=BL w w'∧((gG x f=true∧e=.returned (.tuple #[.pointer none,.int .i64 2]))∨(gG x f=false∧∃C cs,e=.returned (.tuple #[.pointer (some ⟨C,0,none⟩),.int .i64 0])∧w.heap.size≤C∧C<w'.heap.size∧∀W,Same (λq=>q<u.heap.size∨w.heap.size≤q) w' W→mI x f f.station C cs W))
theorem ah5{u w:World}{b:Nat}(h:nW u f cs)(hc:Cx b o cs w):w.cell? ⟨b,o+2,none⟩=some (.int .i64 f.station):=by
 obtain⟨vt,vb,vr,vs,vm,vn,rfl,_⟩:=h;exact hc.2 2 (by simp[iW])
theorem Xi(x:aJ)(f:aQ)(cx:List Value)(i:Nat)(u w:World)(hu:Same (λ_=>True) u w)(hxu:dM u x cx)(hok:fM x)(hfi:x.sheets[i]?=some f):
  Calls prog 65 #[.agg cx.toArray,i] w (aod u x f w):=by
 have hx:=hxu.same hu;have JU:=U hu;have PG:=U hxu;have hsu:=hu.size;clear hxu hu;obtain⟨hi,hf0⟩:=gN.1 hfi;have hf:Hid (x.sheets[i]=f):=U hf0;clear hfi hf0;have bZ:=U hx;have bE:=U hx.len;have dO:=U hok;have HF:=U (WH (hok.sh i hi));obtain⟨va,vs,vr,rfl,hX⟩:=hx;obtain⟨kD,jI,rfl,hs1,hs2⟩:=hX.sheets.shape;unfold maxLen at hs2;have JN:=U hX.sheets;have hns:=hok.sheets;clear hX hok;go_in;go_wp2_with fail;have aZ:=U (Bx.new (W:=w) (t:=30) (vs:=dm x va (.slice kD x.sheets.length jI) vr) rfl);have HB0:=U (Bl.alloc (aB w.heap.size w) (.cells (dm x va (.slice kD x.sheets.length jI) vr).toArray 30));generalize w.alloc (.cells (dm x va (.slice kD x.sheets.length jI) vr).toArray 30)=w0 at *
 obtain⟨b,o,cf,e1,hbl,hF,hC⟩:∃b o cs,kD=some ⟨b,o,none⟩∧b<w0.heap.size∧nW u x.sheets[i] cs∧Cx b (o+i*24) cs w0:=by
  obtain⟨ya,ys,yr,e,hY⟩:=PG.o;have e7:(dm x va (.slice kD x.sheets.length jI) vr)[7]?=(dm x ya ys yr)[7]?:=NW;simp only[dm,aK,bB,Cy]at e7;have hY2:=hY.sheets;rw[←e7]at hY2;obtain⟨b,o,cs,h1,h2,h3,h4⟩:=CW hY2 hi;have hb0:=HB0.o.size;have h5:Same (λ_=>True) u w0:=JU.o.trans (Same.below HB0.o);exact⟨b,o,cs,h1,aa8,h3,aa8,λj hj=>(h5.cell (p:=⟨b,o+i*24+j,none⟩) trivial ay3).trans (di hj).symm⟩
 subst e1;have HC:=U hC;have jm:=U hF.len;have DU:=U hF;have hst:=ah5 hF hC;rw[hf.o]at HF DU hst;have hP:=xY dO.o HF.o;have HP:=U hP;have c17:=aZ.o.cell 7;have Ro:=aZ.o.lt;simp only[dm,aK,bB]at c17;have i1:(0:Int)≤(i:Int):=ae;have i2:(i:Int)<x.sheets.length:=ae;clear hF hC hP;refine iQ [12] [12] 0 [] [(1,[0,1,2,3,4,5,6,7,8,9,10,11],12)] [13] [] [(1,[_,_,_,_,_,_,_,_,_,_,_,_],12,_)] [_] ?_;refine aH (iP ?_)
 (repeat(first|(go_big_quiet_want;(apply bH eH gH rfl);(focus exact HC.o);(focus exact jm.o);go_big_quiet_op;go_big_quiet_on)|(go_big_quiet_want;(first|apply bH eH bK rfl|apply bH eU bK rfl|apply bH eH gH rfl|apply bH eU gH rfl|apply bH eH fZ rfl|apply bH eU fZ rfl|apply bH eH mV rfl|apply bH eU mV rfl);(focus exact AU);(focus exact rfl);go_big_quiet_op;go_big_quiet_on)|go_big_quiet_step (first|fail)));refine aH ?_
 intro nq;go_wp2_with fail;have hbq:BL w0 (w0.drewN nq):=Bl.drewN (aB _ _) nq;refine(anK x f _ cf f.station u (w0.drewN nq) ((JU.o.trans (Same.below HB0.o)).trans (Same.below hbq)) PG.o DU.o HF.o.ppr HF.o.ink HF.o.drum HF.o.pen dO.o.reads).mono ?_;rintro e w1 ⟨C,M,cs,rfl,hO,hC,hM,hb1⟩;have HB1:=U (Bl.call (Bl.call HB0.o hbq) hb1);have hCw:w.heap.size≤C:=ajn;have hMw:w.heap.size≤M:=ajn;have hCz:=hC;have hMz:=hM;have aEe:w.heap.size≤(w0.drewN nq).heap.size:=ajn;have avo:=hb1.size;have HO:=U hO;clear hO hC hM hb1 hbq hst c17 Ro hbl;go_wp2;refine bS _ rfl (qy ?_)
 (repeat(go_big_quiet_step (fail)));refine aH ?_
 intro n2;have hbq:BL w1 (w1.drewN n2):=Bl.drewN (aB _ _) n2;obtain⟨vt,vb,DI,vs',vm,zQ,tk,zP,sZ,vz,hcs,htk,g1,g2,g3,g4,g5,g6⟩:=HO.o.sht;subst htk;have vC:=U hcs;clear hcs;have HGP:=U g5;clear g1 g2 g3 g4 g5 g6;have JX:=U (HO.o.bx.next hbq);have HB2:=U (Bl.call HB1.o hbq);have q22:cs[22]?=some sZ:=Wt;have Dl:cs[20]?=some (.int .i64 x.ticks):=Wt;have oV:cs[14]?=some (.int .i64 f.sheet.band):=Wt;have yG:cs[23]?=some (.slice none 0 0):=Wt;have q24:cs[24]?=some (.map (some M)):=Wt;have HQ:=U (And.intro q22 (And.intro Dl (And.intro oV (And.intro yG q24))));clear q22 Dl oV yG q24;go_wp2_with fail;refine(arG C cs sZ (df f) x.ticks f.sheet.band (w1.drewN n2) JX.o HQ.o.1 HQ.o.2.1 HQ.o.2.2.1 (Shape.list_far (Shape.keep _ HGP.o (Same.below hbq))) (λg hg=>by have:=HP.o.gaps.1 g hg;omega) ajr HP.o.gaps.2 HP.o.band).mono ?_;rintro e w3 ⟨rfl,hb3⟩;have HB3:=U (Bl.call HB2.o hb3);have Py:=U (JX.o.next hb3);have aoz:=U (Shape.keep _ HGP.o (Same.below (Bl.call hbq hb3)));have aeW:=U ((HO.o.ix.below hbq).below hb3);have vO:=U (Bl.call hbq hb3);have akn:(w0.drewN nq).heap.size≤w3.heap.size:=by have:=vO.o.size;omega
 obtain⟨q,hq⟩:=nm (gG x f);have hq2:decide (4000<((eY (df f) x.ticks).length:Int)*(2*f.sheet.band+1))=q:=hq.o;rw[hq2];clear hq2 hb3 hbq JX
 cases q with
 |true=>
  go_wp2;go_ret2;exact⟨HB3.o,.inl ⟨hq.o,rfl⟩⟩
 |false=>
  go_wp2_with fail;refine(ahz C M cs sZ (df f) x.ticks f.sheet.band w3 Py.o HQ.o.1 HQ.o.2.1 HQ.o.2.2.1 HQ.o.2.2.2.1 HQ.o.2.2.2.2 (Shape.mono _ aoz.o (λq _ h=>⟨h.1,h.2.1⟩)) ⟨λg hg=>HP.o.gaps.1 g hg,HP.o.gaps.2⟩ HP.o.ticks HP.o.band aeW.o HO.o.ne).mono ?_;rintro e w4 ⟨rfl,v,hl,hbx,hix,ht⟩
  have HD:Hid (∀W,Same (λq=>q<u.heap.size∨w.heap.size≤q) w4 W→mI x f f.station C (cs.set 23 v) W):=U (λW hW=>JE.done (Z:=λq=>q<u.heap.size∨(w0.drewN nq).heap.size≤q) (w':=w4) (v:=v) (w:=w3) ⟨Py.o,HO.o.ne,by
   obtain⟨vt,vb,DI,vs',vm,zQ,tk,zP,sZ,vz,hcs,htk,g1,g2,g3,g4,g5,g6⟩:=HO.o.sht
   exact⟨vt,vb,DI,vs',vm,zQ,tk,zP,sZ,vz,hcs,htk,g1.keep (Same.below vO.o),Shape.keep _ g2 (Same.below vO.o),Shape.keep _ g3 (Same.below vO.o),Shape.keep _ g4 (Same.below vO.o),Shape.keep _ g5 (Same.below vO.o),Shape.keep _ g6 (Same.below vO.o)⟩,aeW.o⟩ (Shape.mono _ hl λq _ h=>.inr (by have:=akn;omega)) hbx hix ht (.inr hCz) (.inr hMz) W (hW.mono λq h=>alS))
  have hC4:=hbx.lt;have bX:=U (aA.below HB3.o ht (by have:=HB3.o.size;omega) (λq h=>Gw));clear hl hbx hix ht;go_wp2;go_ret2;exact⟨bX.o,.inr ⟨hq.o,C,_,rfl,hCw,hC4,HD.o⟩⟩
def WG(K:Nat)(s:iC)(vh:Value)(h:Sp)(vt:Value):List Value:=[.pointer (some ⟨K,0,none⟩),.int .i64 s.1,.int .i64 s.2.1,.int .i64 s.2.2.1,vh,.int .i64 h.1,.int .i64 h.2,vt]
def Kg(x:aJ)(f:aQ)(C:Nat)(W:World):Prop:=∃K cs vh vt,Bx C (WG K (eF x f) vh (lS x f) vt) W∧mI x f f.station K cs W∧aC Shape.trip W vh (eF x f).2.2.2∧aC Shape.span W vt (ko x f)
def Jm(s:iC)(vh:Value):List Value:=[.int .i64 s.1,.int .i64 s.2.1,.int .i64 s.2.2.1,vh]
def rR(cx:List Value)(v9 v10:Value):List Value:=cx++[v9,v10]
theorem Dq{cx:List Value}{v9 v10:Value}(h:cx.length=9):(rR cx v9 v10)[9]?=some v9∧(rR cx v9 v10)[10]?=some v10∧(rR cx v9 v10).length=11∧(∀v,(rR cx v9 v10).set 9 v=rR cx v v10)∧(∀v,(rR cx v9 v10).set 10 v=rR cx v9 v)∧∀j,j<9→(rR cx v9 v10)[j]?=cx[j]?:=by
 match cx,h with
 |[a,b,c,d,e,f,g,i,j],_=>exact⟨rfl,rfl,rfl,λ_=>rfl,λ_=>rfl,λj hj=>by unfold rR;rw[List.getElem?_append_left Ls]⟩
theorem aq2(x:aJ)(a1 a2 a3:Option Addr)(n1 c1 n2 c2 n3 c3:Nat)(W:World):(Instr.build 101 #[(0,.agg (dm x (.slice a1 n1 c1) (.slice a2 n2 c2) (.slice a3 n3 c3)).toArray)]).run prog W=.ok (.agg (rR (dm x (.slice a1 n1 c1) (.slice a2 n2 c2) (.slice a3 n3 c3)) (.slice none 0 0) (.slice none 0 0)).toArray) W:=acK W _ _ _ aF
theorem aq3(K:Nat)(i1 i2 i3:Int)(ah:Option Addr)(nh ch:Nat)(W:World):(Instr.build 103 #[(0,.pointer (some ⟨K,0,none⟩)),(1,.agg #[i1,i2,i3,.slice ah nh ch])]).run prog W=.ok (.agg #[.pointer (some ⟨K,0,none⟩),i1,i2,i3,.slice ah nh ch,.int .i64 0,.int .i64 0,.slice none 0 0]) W:=acK W _ _ _ aF
theorem avO:(prog.info? 97).map (λi=>(i.zero,i.size,i.bytes))=some (some (.pointer none),1,8):=aF
theorem avW:(prog.info? 85).map (λi=>(i.zero,i.size,i.bytes))=some (some (.agg #[.int .i64 0,.int .i64 0,.int .i64 0,.slice none 0 0]),4,48):=aF
theorem avK:(prog.info? 53).map (λi=>(i.zero,i.size,i.bytes))=some (some (.slice none 0 0),1,24):=aF
theorem adD{l:List iC}(h0:(jU l).1=0)(hi:i<l.length):UE [dH l i]:=by
 intro s hs;rw[FW.1 hs];refine amZ aj λj hj=>?_;obtain rfl:j=0:=Ls;have h:=(WT.1 h0).2 i hi;unfold sQ at h ⊢;have e:dH [dH l i] 0=dH l i:=rfl;rw[e];split at h
 ·rename_i h1;rw[aG ⟨h1.1,λh=>absurd h ae⟩];exact h
 ·simp at h
theorem ahj(hb:0≤f.sheet.band)(hl:gG x f=false):(aL x f).length≤4000:=by
 unfold gG at hl;have h:=Wd hl;rw[WV];have e:((2*f.sheet.band+1).toNat:Int)=2*f.sheet.band+1:=ae
 have h2:(((eY (df f) x.ticks).length*(2*f.sheet.band+1).toNat:Nat):Int)≤4000:=by
  rw[Zj,e];exact Int.not_lt.1 h
 omega
structure agz(x:aJ)(w:World)(B lo:Nat)(cx:List Value)(k:Nat)(v9 vl:Value)(Z:Nat→Prop)(Cf:Nat→Nat)(vh:Nat→Value)(wr:World):Prop where
 zlt:∀q,Z q→q<wr.heap.size
 zw:∀q,q<w.heap.size→Z q
 zB:¬Z B
 sh:∀i f,i<k→x.sheets[i]?=some f→gG x f=false∧∀W,Same Z wr W→Kg x f (Cf i) W
 bx:Bx B (rR cx v9 (.slice none 0 0)) wr
 ptrs:wr.ownsRow lo 97 1 v9 k ((List.range k).map λi=>.pointer (some ⟨Cf i,0,none⟩))
 list:wr.ownsRow lo 85 4 vl k ((List.range k).flatMap λi=>Jm (((x.sheets[i]?).map (eF x)).getD (0,0,0,[])) (vh i))
 hts:∀i f,i<k→x.sheets[i]?=some f→aC Shape.trip w (vh i) (eF x f).2.2.2
 z9:∀q,v9.ownBlock=some q→¬Z q
 zl:∀q,vl.ownBlock=some q→¬Z q
 bel:Below w.heap.size w wr
 wk:Bx w.heap.size cx wr
 lw:lo≤wr.heap.size∧B<lo
structure RegionAt(x:aJ)(B:Nat)(W:World):Prop where
 bx:∃cx v9 vb,Bx B (rR cx v9 vb) W∧dM W x cx∧aC Shape.int.list W vb (mQ x)∧(1≤x.sheets.length→∃q o c,v9=.slice (some ⟨q,o,none⟩) x.sheets.length c∧∀i f,x.sheets[i]?=some f→∃C,W.cell? ⟨q,o+i,none⟩=some (.pointer (some ⟨C,0,none⟩))∧Kg x f C W)∧∃a c,v9=.slice a x.sheets.length c
def ap2(x:aJ)(w:World)(e:Ending)(w':World):Prop:=BL w w'∧((¬Fits x∧e=.returned (.tuple #[.pointer none,.int .i64 2]))∨(Fits x∧∃B,e=.returned (.tuple #[.pointer (some ⟨B,0,none⟩),.int .i64 0])∧w.heap.size≤B∧RegionAt x B w'))
theorem ad7(x:aJ)(cx:List Value)(w:World)(hx:dM w x cx)(hok:fM x):
  Calls prog 78 #[.agg cx.toArray] w (ap2 x w):=by
 have bZ:=U hx;have bE:=U hx.len;have dO:=U hok;have Aj:=U hx.one;obtain⟨va,vs,vr,jR,hX⟩:=hx;obtain⟨kD,jI,rfl,hs1,hs2⟩:=hX.sheets.shape;obtain⟨Eh,El,rfl,ha1,ha2⟩:=hX.stas.shape;obtain⟨UU,U1,rfl,hr1,hr2⟩:=hX.reads.shape;unfold maxLen at hs2 ha2 hr2;have HX:=U hX;have hns:=hok.sheets;obtain⟨n,hn⟩:∃n:Nat,Hid (x.sheets.length=n):=⟨_,U rfl⟩;rw[hn.o]at jR hs1 hns;have jV:=U jR;clear hX hok jR;go_in;go_wp2_with (with_reducible_and_instances refine dI 18 ?_)
 have HW1:=U (Bx.new (W:=w) (t:=30) (vs:=cx) rfl);have HB0:=U (Bl.alloc (aB w.heap.size w) (.cells cx.toArray 30));have VU:w.heap.size+1≤(w.alloc (.cells cx.toArray 30)).heap.size:=aj;have hbz:(w.alloc (.cells cx.toArray 30)).heap.size=w.heap.size+1:=aj;have HBZ:=U hbz;clear hbz;generalize w.alloc (.cells cx.toArray 30)=w0 at *;refine⟨?_⟩;have xE:Hid (∀W,(Instr.build 101 #[(0,.agg cx.toArray)]).run prog W=.ok (.agg (rR cx (.slice none 0 0) (.slice none 0 0)).toArray) W):=U (λW=>by rw[jV.o];exact aq2 x _ _ _ _ _ _ _ _ _ W);have yJ:=U (Cx.whole HW1.o);go_wp2_with (first|(refine dh bK rfl yJ.o bE.o ?_)|(refine SL xE.o rfl ?_)|(with_reducible_and_instances refine dI 21 ?_))
 have XB:=Bx.new (W:=w0) (t:=101) (vs:=rR cx (.slice none 0 0) (.slice none 0 0)) rfl;have hbl:=Bl.alloc (aB w0.heap.size w0) (.cells (rR cx (.slice none 0 0) (.slice none 0 0)).toArray 101);have HW1:=U (HW1.o.next hbl);have HB1:=U (Bl.call HB0.o hbl);have hB1:w0.heap.size<(w0.alloc (.cells (rR cx (.slice none 0 0) (.slice none 0 0)).toArray 101)).heap.size:=aj;clear hbl HB0 yJ xE;generalize w0.alloc (.cells (rR cx (.slice none 0 0) (.slice none 0 0)).toArray 101)=w1 at *;have akl:w.heap.size<w0.heap.size:=ae
 (try unfold BL at *);generalize w0.heap.size=B at *
 refine⟨?_⟩;have HI:Hid (agz x w B w1.heap.size cx 0 (.slice none 0 0) (.slice none 0 0) (λq=>q<w.heap.size) (λ_=>0) (λ_=>.slice none 0 0) w1):=U ⟨λq h=>by have:=HB1.o.size;omega,λ_ h=>h,ae,λi f h=>ae,XB,nJ _ _ _ _,nJ _ _ _ _,λi f h=>ae,λq h=>ze,λq h=>ze,HB1.o,HW1.o,aV _,hB1⟩;have c17:=HW1.o.cell 7;have l1:=HW1.o.lt;rw[jV.o]at c17;simp only[dm,aK,bB]at c17;clear XB HW1 HB1;go_wp2
 go_loopw [5,24] (λs5 s24 wr=>∃(k:Nat) (v9 vl:Value) (Z:Nat→Prop) (Cf:Nat→Nat) (vh:Nat→Value),k≤n∧s24=.int .i64 k∧s5=vl∧Hid (agz x w B w1.heap.size cx k v9 vl Z Cf vh wr)) (λ_ s24 _=>n-(intOf s24).toNat)
 case atStart=>exact⟨0,_,_,_,_,_,ae,rfl,rfl,HI⟩
 case round=>
  clear HI;obtain⟨k,v9,vl,Z,Cf,vh,hk,rfl,rfl,HR⟩:=hrel;have hzB:=HR.o.bel.size;have hlw:=HR.o.lw.1;have hlB:=HR.o.lw.2;by_cases hlt:k<n
  ·have aby:k<x.sheets.length:=iH;obtain⟨b,o,cf,e1,hbl,hF,hC⟩:=CW (HX.o.sheets.below HR.o.bel) aby;subst e1;obtain⟨f,hf⟩:∃f,Hid (x.sheets[k]?=some f):=⟨_,U (di aby)⟩;have ef:x.sheets[k]=f:=by have:=hf.o;rw[di aby]at this;exact P9 this
   rw[ef]at hF;have HC:=U hC;have jm:=U hF.len;have ky:=U hF.one;have est:=aaA hF hC;have i1:(0:Int)≤(k:Int):=ae;have i2:(k:Int)<(n:Int):=ae;have HST:=U (show cf[2]?=some (.int .i64 f.station) by obtain⟨_,_,_,_,_,_,e,_⟩:=hF;rw[e];rfl);have TH:=U (dO.o.sht (qX hf.o));clear hC hF ef est;go_wp2_with (first|(refine dh gH rfl HC.o jm.o ?_)|(refine xA gH rfl rfl rfl rfl jm.o ky.o ?_)|(with_reducible_and_instances refine dI 30 ?_))
   have VE:=Bl.alloc (aB wr.heap.size wr) (.cells cf.toArray 65);have X7:=Bx.new (W:=wr) (t:=65) (vs:=cf) rfl;have kN:=U (Bl.call HR.o.bel VE);have wN:=U (HR.o.wk.next VE);have Mh:=U VE;have uJ:wr.heap.size<(wr.alloc (.cells cf.toArray 65)).heap.size:=X7.lt;clear hbl HC VE;generalize wr.alloc (.cells cf.toArray 65)=wa at *;obtain⟨b7,bV⟩:=nm wr.heap.size;rw[bV.o]at X7 uJ ⊢;refine⟨?_⟩;have yJ:=U (Cx.whole wN.o);go_wp2_with (refine dh bK rfl yJ.o bE.o ?_)
   refine(Xi x f cx k w wa (Same.below kN.o) bZ.o dO.o hf.o).mono ?_;rintro e w3 ⟨hb3,hP⟩;have X7:=X7.next hb3;have wN:=U (wN.o.next hb3);have HB3:=U (Bl.call kN.o hb3);have HR3:=U (Bl.call Mh.o hb3);have aEo:=hb3.size;clear yJ Mh hb3;rcases hP with⟨cO,rfl⟩|⟨cO,K,cs,rfl,hK1,hK2,hCH⟩
   ·have O8:Hid (¬Fits x):=U (λh=>by have:=h f (qX hf.o);rw[cO]at this;cases this);go_wp2;go_ret2;exact⟨HB3.o,.inl ⟨O8.o,rfl⟩⟩
   ·have nE:=U cO;have DT:=U hCH;clear cO hCH;have d0:=wN.o.cell 0;have d2:=X7.cell 2;have l0:=wN.o.lt;rw[jV.o]at d0;rw[HST.o]at d2;simp only[dm,aK,bB]at d0;obtain⟨s1,s2,hs⟩:∃a b,Hid (sS x.stas f.station=(a,b)):=⟨_,_,U rfl⟩;go_wp2_with fail;refine(sof _ x.stas f.station w3 (HX.o.stas.below HB3.o)).mono ?_;rintro e w4 ⟨rfl,hb4⟩;rw[hs.o];obtain⟨hs0,i,hi,hsi,hsx,aD1⟩:=WU TH.o.sta;have Iq:s1=(i:Int):=by have:=hs.o;rw[this]at hsi;exact hsi
    have e2':s2=0:=by have:=hs.o;have h2:=TH.o.sta;rw[this]at h2;exact h2
    subst Iq e2';have HSX:=U hsx;have hok1:=Sq hs0 hi;have hso:=adD hs0 hi;rw[←hsx]at hok1 hso;obtain⟨bs,os,vhk,eas,g1,g2,g3,g4,xg⟩:=HX.o.stas.sta_at hi;rw[←Sn hi,←hsx]at g1 g2 g3 xg;subst eas;obtain⟨ah,ch,QA,hh1,hh2⟩:=xg.shape;obtain⟨nh,hnh⟩:∃m:Nat,Hid ((eF x f).2.2.2.length=m):=⟨_,U rfl⟩;rw[hnh.o]at QA;subst QA;have Mo:=U xg;have HSO:=U (And.intro hok1 hso);have bX:=U (Bl.call HB3.o hb4);have Nz:=fe _ _ g1;dsimp only at Nz;have g1:=(bX.o.cell Nz).trans g1;have g2:=(bX.o.cell (p:=⟨bs,os+i*4+1,none⟩) Nz).trans g2;have g3:=(bX.o.cell (p:=⟨bs,os+i*4+2,none⟩) Nz).trans g3;have g4:=(bX.o.cell (p:=⟨bs,os+i*4+3,none⟩) Nz).trans g4;have wN:=U (wN.o.next hb4);have Fz:=U (Same.below hb4:Same (λ_=>True) w3 w4);have HR4:=U (Bl.call HR3.o hb4);have EG:=hb4.size;obtain⟨t1,ht1⟩:∃z,Hid ((eF x f).1=z):=⟨_,U rfl⟩;obtain⟨t2,ht2⟩:∃z,Hid ((eF x f).2.1=z):=⟨_,U rfl⟩;obtain⟨t3,ht3⟩:∃z,Hid ((eF x f).2.2.1=z):=⟨_,U rfl⟩;rw[ht1.o]at g1;rw[ht2.o]at g2;rw[ht3.o]at g3;clear d0 d2 hs hsx hok1 hso xg hb4 HB3 HR3 X7;have d0:=wN.o.cell 0;have l0:=wN.o.lt;rw[jV.o]at d0;simp only[dm,aK,bB]at d0;have j1:(0:Int)≤(i:Int):=ae;have j2:(i:Int)<(x.stas.length:Int):=ae
    have BM:=U (aq3 K t1 t2 t3 ah nh ch);go_wp2_with (first|(refine SL BM.o rfl ?_))
    have Ng:=Bl.alloc (aB w4.heap.size w4) (.cells #[.pointer (some ⟨K,0,none⟩),t1,t2,t3,.slice ah nh ch,.int .i64 0,.int .i64 0,.slice none 0 0] 103);have Cq:=U (Bx.new (W:=w4) (t:=103) (vs:=[.pointer (some ⟨K,0,none⟩),.int .i64 t1,.int .i64 t2,.int .i64 t3,.slice ah nh ch,.int .i64 0,.int .i64 0,.slice none 0 0]) rfl);have TU:=U (wN.o.next Ng);have eD:=U (Bl.call bX.o Ng);have DZ:=U (Bl.call HR4.o Ng);have HS5:=U (Fz.o.trans (Same.below Ng));have vQ:=Ng.size;clear Ng g1 g2 g3 g4 Nz d0 l0 bX HR4 Fz wN BM;generalize w4.alloc (.cells #[.pointer (some ⟨K,0,none⟩),t1,t2,t3,.slice ah nh ch,.int .i64 0,.int .i64 0,.slice none 0 0] 103)=w5 at *;obtain⟨Ck,hCk⟩:∃c,Hid (w4.heap.size=c):=⟨_,U rfl⟩;rw[hCk.o]at Cq ⊢;have aEg:w3.heap.size≤Ck:=by have:=hCk.o;omega
    have k1:=Cq.o.cell 1;have k2:=Cq.o.cell 2;have k3:=Cq.o.cell 3;have k4:=Cq.o.cell 4;have lk:=Cq.o.lt;have d6:=TU.o.cell 6;have l0:=TU.o.lt;rw[jV.o]at d6;simp only[dm,aK,bB]at d6 k1 k2 k3 k4;refine an3 [7,13] [7,13] 0 [0,1,2,3,5] (.one 1 [4,6] 7 (.pur [8,9,10] (.one 0 [11,12] 13 (.fin [])))) [_,_,_,_,_] (.one 1 [_,_] 7 _ (.pur [_,_,_] (.one 0 [_,_] 13 _ (.fin [])))) ?_
    (repeat(go_big_quiet_step (fail)));refine aH (adL ?_)
    (repeat(go_big_quiet_step (fail)));refine aH ?_
    intro nq;have hbq:BL w5 (w5.drewN nq):=Bl.drewN (aB _ _) nq
    have HHT:Hid (Calls prog 138 #[.agg #[t1,t2,t3,.slice ah nh ch],x.week] (w5.drewN nq) (UA (lS x f) 0 (w5.drewN nq))):=U (by
     have:=azf t1 t2 t3 x.week (.slice ah nh ch) (eF x f).2.2.2 (w5.drewN nq) (Mo.o.below (Bl.call eD.o hbq)) HSO.o.1.2.2.2 (by have:=HSO.o.2;rw[←ht1.o,←ht2.o,←ht3.o];exact this) dO.o.week.1 dO.o.week.2
     exact this)
    go_wp2_with fail;refine HHT.o.mono ?_;rintro e w6 ⟨rfl,hb6⟩;obtain⟨m1,hm1⟩:∃z,Hid ((lS x f).1=z):=⟨_,U rfl⟩;obtain⟨m2,hm2⟩:∃z,Hid ((lS x f).2=z):=⟨_,U rfl⟩;rw[hm1.o,hm2.o];have Pz:=U ((Cq.o.next hbq).next hb6);have afU:=U ((TU.o.next hbq).next hb6);have dD:=U (Bl.call (Bl.call eD.o hbq) hb6);have HR6:=U (Bl.call (Bl.call DZ.o hbq) hb6);have yP:=U ((HS5.o.trans (Same.below hbq)).trans (Same.below hb6));have vR:w5.heap.size≤w6.heap.size:=(Bl.call hbq hb6).size;clear HHT hbq hb6 k1 k2 k3 k4 lk d6 l0 Cq TU eD DZ HS5;go_wp2;refine bS _ rfl (LG ?_)
    (repeat(go_big_quiet_step (fail)));refine aH (adL ?_)
    (repeat(go_big_quiet_step (fail)));refine aH ?_
    intro n2;have Kl:=Pz.o.drewN n2;have k5:=Kl.cell 5;have k6:=Kl.cell 6;have f5:=Kl.free 5;have f6:=Kl.free 6;have lk:=Kl.lt;simp only[aK,bB]at k5 k6;go_wp2;refine bS _ rfl (LF ?_);have hbq:BL w6 (w6.drewN n2):=Bl.drewN (aB _ _) n2;have Ub:=U ((Kl.set 5 (.int .i64 m1) aj).set 6 (.int .i64 m2) aj);have QP:Same (λ_=>True) w3 (w6.drewN n2):=yP.o.trans (Same.below hbq);have avd:∀W,w5.heap.size≤(w6.drewN n2).heap.size:=λ_=>by have:=hbq.size;omega
    have Ho:Hid (Same (λ_=>True) w3 (((w6.drewN n2).setCell ⟨Ck,5,none⟩ (.int .i64 m1)).setCell ⟨Ck,6,none⟩ (.int .i64 m2))):=U ⟨by have:=QP.size;simpa using this,λq hq hl=>by
     have h1:=((Same.setCell ((w6.drewN n2).setCell ⟨Ck,5,none⟩ (.int .i64 m1)) ⟨Ck,6,none⟩ (.int .i64 m2)).block q (by show q≠Ck;omega) (by have:=QP.size;simp;omega));have h2:=((Same.setCell (w6.drewN n2) ⟨Ck,5,none⟩ (.int .i64 m1)).block q (by show q≠Ck;omega) (by have:=QP.size;simp at this ⊢;omega))
     exact h1.trans (h2.trans (QP.block q hq hl))⟩
    have TV:=U ((afU.o.drewN n2).far (p:=⟨Ck,5,none⟩) (by show Ck≠w.heap.size;omega) (.int .i64 m1) |>.far (p:=⟨Ck,6,none⟩) (by show Ck≠w.heap.size;omega) (.int .i64 m2));have cZ:=U (Bl.setCell (Bl.setCell (Bl.call dD.o hbq) (p:=⟨Ck,5,none⟩) amJ (.int .i64 m1)) (p:=⟨Ck,6,none⟩) amJ (.int .i64 m2));have HR8:=U (Bl.setCell (Bl.setCell (Bl.call HR6.o hbq) (p:=⟨Ck,5,none⟩) amN (.int .i64 m1)) (p:=⟨Ck,6,none⟩) amN (.int .i64 m2));have lU:w3.heap.size≤(((w6.drewN n2).setCell ⟨Ck,5,none⟩ (.int .i64 m1)).setCell ⟨Ck,6,none⟩ (.int .i64 m2)).heap.size:=Ho.o.size;clear hbq QP avd k5 k6 f5 f6 lk Kl Pz afU dD HR6 yP;generalize ((w6.drewN n2).setCell ⟨Ck,5,none⟩ (.int .i64 m1)).setCell ⟨Ck,6,none⟩ (.int .i64 m2)=w8 at *;simp only[Cw,Ed]at Ub;obtain⟨tm,C8⟩:∃m:Nat,Hid (x.term=(m:Int)):=⟨x.term.toNat,U (by have:=dO.o.term;omega)⟩;have d3:=TV.o.cell 3;have l0:=TV.o.lt;have lk:=Ub.o.lt;rw[jV.o]at d3;simp only[dm,aK,bB]at d3;rw[C8.o]at d3;have aeI:=U (DT.o w8 (Ho.o.mono λ_ _=>trivial))
    have Ma:=U (arH x f f.station K cs tm tm none 0 [] true w8 aeI.o dO.o TH.o nE.o (by have:=ahj (x:=x) (f:=f) (by have:=(xY dO.o TH.o).band;omega) nE.o;omega) (Aq.nil w8) (by have:=dO.o.term;have:=C8.o;omega) (by have:=dO.o.term;have:=C8.o;omega));go_wp2_with fail;refine Ma.o.mono ?_;rintro e w9 ⟨vt,rfl,AV,dX⟩;obtain⟨at9,CP,rfl⟩:=bv AV
    have HOW:Hid (bG w8.heap.size w9 (.slice at9 (ko x f).length CP) (ko x f)):=U (by
     have e:ko x f=pV (aL x f) (bT x f f.station tm [] true) tm:=by unfold ko;rw[C8.o];rfl
     rw[e];exact AV)
    have HLEN:Hid ((pV (aL x f) (bT x f f.station tm [] true) tm).length=(ko x f).length):=U (by unfold ko;rw[C8.o];rfl);rw[HLEN.o];obtain⟨nt,hnt⟩:∃m,Hid ((ko x f).length=m):=⟨_,U rfl⟩;rw[hnt.o];have YG:=HOW.o;rw[hnt.o]at YG;have HOW:=U YG;have Qn:=Ub.o.next dX;have k7:=Qn.cell 7;have f7:=Qn.free 7;have lk9:=Qn.lt;simp only[aK,bB]at k7;have gm:=U dX;have A8:=dX.size;have aDN:=Ub.o.lt;clear AV YG d3 l0 lk dX Ma;go_wp2_with (with_reducible_and_instances refine dI 82 ?_)
    have Pw:=U (Qn.set 7 (.slice at9 nt CP) aj);have Mk:Hid (aA (λq=>q=Ck) w9 (w9.setCell ⟨Ck,7,none⟩ (.slice at9 nt CP))):=U (aA.setCell _ _ _ _ rfl)
    have YS:Hid (Same (λ_=>True) w3 (w9.setCell ⟨Ck,7,none⟩ (.slice at9 nt CP))):=U (by
     have h39:=Ho.o.trans (Same.below gm.o)
     exact⟨fK h39.size Mk.o.size,λq hq hl=>(Mk.o.block q (nH hl h39.size) (by show ¬q=Ck;omega)).trans (h39.block q hq hl)⟩)
    have apF:=U ((TV.o.next gm.o).turns Mk.o ae);have yH:=U (Bl.setCell (Bl.call cZ.o gm.o) (p:=⟨Ck,7,none⟩) amJ (.slice at9 nt CP));have Cc:=U (Bl.setCell (Bl.call HR8.o gm.o) (p:=⟨Ck,7,none⟩) amN (.slice at9 nt CP));have ao3:Hid (Shape.span.list.reads (λq=>b7≤q) (w9.setCell ⟨Ck,7,none⟩ (.slice at9 nt CP)) [.slice at9 nt CP] (ko x f)):=U (xh mE (jT (fO HOW.o Mk.o (λq hq e=>ajj))) (λq hq=>ajj));have KN:w9.heap.size≤(w9.setCell ⟨Ck,7,none⟩ (.slice at9 nt CP)).heap.size:=Mk.o.size;clear k7 f7 lk9 Qn Ho TV cZ HR8 HOW aeI Mk gm;generalize w9.setCell ⟨Ck,7,none⟩ (.slice at9 nt CP)=iZ at *;simp only[Cw,Ed]at Pw
    have Pk:Hid (∀W,Same (λq=>q<w.heap.size∨b7≤q) iZ W→Kg x f Ck W):=U (λW hW=>by
     refine⟨K,cs,.slice ah nh ch,.slice at9 nt CP,?_,DT.o W ?_,?_,Shape.list_far (Shape.keep _ ao3.o (hW.mono λq h=>.inr h))⟩
     ·have:=Pw.o.block (hW.block Ck (.inr ae) Pw.o.lt) hW.size;unfold WG;rw[ht1.o,ht2.o,ht3.o,hm1.o,hm2.o];exact this
     ·exact(YS.o.mono λ_ _=>trivial).trans (hW.mono λq h=>alS)
     ·have h1:=Shape.keep _ Mo.o ((Same.below yH.o:Same (λ_=>True) w iZ));have h2:Same (λ_=>True) w W:=⟨fK yH.o.size hW.size,λq hq hl=>(hW.block q (.inl hl) (nH hl yH.o.size)).trans ((Same.below yH.o:Same (λ_=>True) w iZ).block q hq hl)⟩
      exact Shape.keep _ Mo.o h2)
    obtain⟨ap,cp,ep⟩:=bv HR.o.ptrs;subst ep;obtain⟨al,cl,el⟩:=bv HR.o.list;subst el;refine⟨?_⟩;have T9:=U (HR.o.bx.next Cc.o);have q9:=(T9.o.cell 9).trans (Dq bE.o).1;have lB:=T9.o.lt;have Pf:=U (gV HR.o.ptrs Cc.o);have Yt:=U (gV HR.o.list Cc.o);have Iz:=U (λq (e:(Value.slice ap k cp).ownBlock=some q)=>HR.o.ptrs.lt q e);have Vp:=U (λq (e:(Value.slice al k cl).ownBlock=some q)=>HR.o.list.lt q e);obtain⟨i0,hi,hz0,hz1,hz2⟩:=dY avO;have VL:k≤64:=ae;have hsr:=Cc.o.size;go_wp2_with (first|(at_builtin;go_loud (refine iE (Pf.o.alloc _) ⟨iZ.heap.size,0,none⟩ 1 1 [.pointer (some ⟨Ck,0,none⟩)] hi hz0 hz1 hz2 ?_);intro v11 EZ VM abq aj6;obtain⟨oN,c11,rfl⟩:=bv VM;have oM:=(T9.o.alloc (.cells #[.pointer (some ⟨Ck,0,none⟩)] 97)).grown abq (λe=>by have:=(Iz.o _ e.symm).1;omega);have q9b:=(oM.cell 9).trans (Dq bE.o).1;have z9b:=oM.free 9;have VX:=oM.lt)|(with_reducible_and_instances refine dI 92 ?_))
    have TI:Hid (aA (λq=>q=B∨(Value.slice ap k cp).ownBlock=some q) iZ (EZ.setCell ⟨B,9,none⟩ (.slice oN (k+1) c11))):=U (((aA.alloc _ iZ (.cells #[.pointer (some ⟨Ck,0,none⟩)] 97)).trans (aA.grown abq (λq hq=>.inr hq))).trans (aA.setCell _ _ _ _ (.inl rfl)))
    have apN:=U (show Bx B (rR cx (.slice oN (k+1) c11) (.slice none 0 0)) (EZ.setCell ⟨B,9,none⟩ (.slice oN (k+1) c11)) by
     have:=oM.set 9 (.slice oN (k+1) c11) (by rw[(Dq bE.o).2.2.1];omega)
     rw[(Dq bE.o).2.2.2.1]at this;exact this)
    have ao6:=U (fO VM (aA.setCell (λq=>q=B) EZ ⟨B,9,none⟩ (.slice oN (k+1) c11) rfl) (λq hq e=>by have:=(VM.lt q hq).1;omega))
    have ae7:Hid (∀q,(Value.slice oN (k+1) c11).ownBlock=some q→(Value.slice ap k cp).ownBlock=some q∨iZ.heap.size≤q):=U (λq hq=>by
     rcases aj6 with e|⟨k',e,hle⟩
     ·rw[e]at hq;exact .inl hq
     ·rw[hq]at e;cases e;simp only[fH]at hle;exact .inr ae)
    have Ai:=U (λq (hq:(Value.slice al k cl).ownBlock=some q)=>own_ne Yt.o Pf.o aW hq);have hzA:=TI.o.size
    have aoK:=U (fO Yt.o TI.o (λq hq e=>by
     rcases e with e|e
     ·have:=(Vp.o q hq).1;omega
     ·exact Ai.o q hq e))
    have Px:=U (Pw.o.turns TI.o (λe=>by
     rcases e with e|e
     ·have:=bV.o;omega
     ·have:=(Iz.o _ e).2;have:=bV.o;omega))
    clear oM VM abq aj6 q9 q9b z9b VX lB T9 Pf Yt Pw;generalize EZ.setCell ⟨B,9,none⟩ (.slice oN (k+1) c11)=rT at *;refine⟨?_⟩;have k1:=Px.o.cell 1;have k2:=Px.o.cell 2;have k3:=Px.o.cell 3;have k4:=Px.o.cell 4;have lk:=Px.o.lt;simp only[aK,bB]at k1 k2 k3 k4;obtain⟨i0,hi,hz0,hz1,hz2⟩:=dY avW;go_wp2_with (first|(at_builtin;go_loud (refine iE (aoK.o.alloc _) ⟨rT.heap.size,0,none⟩ 1 1 [t1,t2,t3,.slice ah nh ch] hi hz0 hz1 hz2 ?_);intro v13 GN aj8 auA auV;obtain⟨a13,c13,rfl⟩:=bv aj8))
    have aDl:=bV.o;have Ce:=U (aA.grown (own:=λq=>(Value.slice al k cl).ownBlock=some q) auA (λq hq=>hq));have TJ:Hid (aA (λq=>(Value.slice al k cl).ownBlock=some q) rT GN):=U ((aA.alloc _ rT (.cells #[t1,t2,t3,.slice ah nh ch] 85)).trans Ce.o);have aEm:=TJ.o.size
    have aoS:Hid (∀q,(Value.slice a13 (k+1) c13).ownBlock=some q→(Value.slice al k cl).ownBlock=some q∨iZ.heap.size≤q):=U (λq hq=>by
     rcases auV with e|⟨k',e,hle⟩
     ·rw[e]at hq;exact .inl hq
     ·rw[hq]at e;cases e;simp only[fH]at hle;exact .inr ae)
    have pG:Hid (∀q,(B=q∨(Value.slice ap k cp).ownBlock=some q∨(Value.slice al k cl).ownBlock=some q)→w.heap.size≤q∧q<b7∧q≠w.heap.size∧¬Z q):=U (λq hq=>by
     have hwB:w.heap.size<B:=akl;rcases hq with h|h|h
     ·subst h;exact⟨ae,ae,ae,HR.o.zB⟩
     ·have:=Iz.o q h;exact⟨ae,ae,ae,HR.o.z9 q h⟩
     ·have:=Vp.o q h;exact⟨ae,ae,ae,HR.o.zl q h⟩)
    have yQ:Hid (aA (λq=>B=q∨(Value.slice ap k cp).ownBlock=some q∨(Value.slice al k cl).ownBlock=some q) iZ GN):=U ((TI.o.mono λq h=>by rcases h with h|h;exact .inl h.symm;exact .inr (.inl h)).trans (TJ.o.mono λq h=>.inr (.inr h)));have akn:=yQ.o.size;have cB:Hid (BL w GN):=U (aA.below yH.o yQ.o yH.o.size (λq h=>(pG.o q h).1));have apG:Hid (Bx w.heap.size cx GN):=U (apF.o.turns yQ.o (λh=>(pG.o _ h).2.2.1 rfl));have JP:Hid (∀(A:Nat→Prop) W,(∀q,A q→q<iZ.heap.size→¬(B=q∨(Value.slice ap k cp).ownBlock=some q∨(Value.slice al k cl).ownBlock=some q))→Same A GN W→Same A iZ W):=U (λA W hA hW=>⟨fK yQ.o.size hW.size,λq hq hl=>(hW.block q hq (nH hl yQ.o.size)).trans (yQ.o.block q hl (hA q hq hl))⟩);refine⟨⟨k+1,.slice oN (k+1) c11,_,λq=>Z q∨(b7≤q∧q<iZ.heap.size),λi=>if i=k then Ck else Cf i,λi=>if i=k then .slice ah nh ch else vh i,ae,aY,rfl,U ⟨λq h=>?_,λq h=>.inl (HR.o.zw q h),λh=>?_,λi' f' hi' hf'=>?_,?_,?_,?_,λi' f' hi' hf'=>?_,λq hq h=>?_,λq hq h=>?_,cB.o,apG.o,⟨ae,hlB⟩⟩⟩,GG⟩
    ·rcases h with h|h
     ·have:=HR.o.zlt q h;omega
     ·omega
    ·rcases h with h|h
     ·exact HR.o.zB h
     ·omega
    ·by_cases e:i'=k
     ·subst e;have ef:f'=f:=at0;subst ef;refine⟨nE.o,λW hW=>?_⟩;rw[aG rfl]
      have h:=JP.o (λq=>(q<w.heap.size∨b7≤q)∧q<iZ.heap.size) W (λq hq hl h=>by have:=pG.o q h;omega) ⟨hW.size,λq hq hl=>by
       rcases hq.1 with h|h
       ·exact hW.block q (.inl (HR.o.zw q h)) hl
       ·exact hW.block q (.inr ⟨h,hq.2⟩) hl⟩
      exact Pk.o W ⟨h.size,λq hq hl=>h.block q ⟨hq,hl⟩ hl⟩
     ·obtain⟨g1,g2⟩:=HR.o.sh i' f' ae hf';refine⟨g1,λW hW=>?_⟩;rw[aD e];have h1:Same Z iZ W:=JP.o Z W (λq hq hl h=>(pG.o q h).2.2.2 hq) (hW.mono λq h=>.inl h);exact g2 W ⟨fK Cc.o.size h1.size,λq hq hl=>(h1.block q hq (nH hl Cc.o.size)).trans ((Same.below Cc.o:Same (λ_=>True) wr iZ).block q trivial hl)⟩
    ·exact apN.o.turns TJ.o (λh=>by have:=(Vp.o _ h).1;omega)
    ·have h1:=fO ao6.o TJ.o (λq hq h=>by
      rcases ae7.o q hq with h2|h2
      ·exact Ai.o q h h2
      ·have:=(Vp.o q h).2;omega)
     have e:((List.range (k+1)).map λi=>Value.pointer (some ⟨if i=k then Ck else Cf i,0,none⟩))=((List.range k).map λi=>.pointer (some ⟨Cf i,0,none⟩))++[.pointer (some ⟨Ck,0,none⟩)]:=by
      rw[jq,iT]
      congr 1
      ·exact J7 λi' hi'=>ay4
      ·simp
     rw[e];exact h1
    ·have e:((List.range (k+1)).flatMap λi=>Jm (((x.sheets[i]?).map (eF x)).getD (0,0,0,[])) (if i=k then .slice ah nh ch else vh i))=((List.range k).flatMap λi=>Jm (((x.sheets[i]?).map (eF x)).getD (0,0,0,[])) (vh i))++[.int .i64 t1,.int .i64 t2,.int .i64 t3,.slice ah nh ch]:=by
      rw[jq,mO]
      congr 1
      ·unfold List.flatMap;exact gQ List.flatten (J7 λi' hi'=>ay4)
      ·simp only[jN,J5,ow,aG,hf.o,MG,sj,Jm,ht1.o,ht2.o,ht3.o]
     rw[e];exact aj8
    ·by_cases e:i'=k
     ·subst e;have ef:f'=f:=at0;subst ef;rw[aG rfl];exact Mo.o
     ·rw[aD e];exact HR.o.hts i' f' ae hf'
    ·rcases ae7.o q hq with h2|h2
     ·have:=pG.o q (.inr (.inl h2));rcases h with h|h
      ·exact this.2.2.2 h
      ·omega
     ·rcases h with h|h
      ·have:=HR.o.zlt q h;omega
      ·omega
    ·rcases aoS.o q hq with h2|h2
     ·have:=pG.o q (.inr (.inr h2));rcases h with h|h
      ·exact this.2.2.2 h
      ·omega
     ·rcases h with h|h
      ·have:=HR.o.zlt q h;omega
      ·omega
  ·obtain rfl:k=n:=ae
   have aox:Hid (Fits x):=U (λf hf=>by
    obtain⟨i,hi,rfl⟩:=mr hf
    exact(HR.o.sh i _ iH (di hi)).1)
   obtain⟨al,cl,el⟩:=bv HR.o.list;subst el;have HXB:=U HR.o.bx
   have Mj:Hid (∀i,i<k→∃g f ai ni ci,al=some ⟨g,0,none⟩∧x.sheets[i]?=some f∧g<wr.heap.size∧B≠g∧aC Shape.trip w (.slice ai ni ci) (eF x f).2.2.2∧wr.cell? ⟨g,i*4,none⟩=some (.int .i64 (eF x f).1)∧wr.cell? ⟨g,i*4+1,none⟩=some (.int .i64 (eF x f).2.1)∧wr.cell? ⟨g,i*4+2,none⟩=some (.int .i64 (eF x f).2.2.1)∧wr.cell? ⟨g,i*4+3,none⟩=some (.slice ai ni ci)):=U (λi hi=>by
    have hix:i<x.sheets.length:=iH;obtain⟨f,hf⟩:∃f,x.sheets[i]?=some f:=⟨_,di hix⟩;have hh:=HR.o.hts i f hi hf;obtain⟨ai,ci,ev,_,_⟩:=hh.shape;rw[ev]at hh;have hL:=HR.o.list;rcases hL.2 with⟨h',h0⟩|⟨g,cap,cur,h',hg,_⟩
    ·omega
    ·cases h'
     have hcell:∀j,j<4→wr.cell? ⟨g,i*4+j,none⟩=(Jm (eF x f) (.slice ai (eF x f).2.2.2.length ci))[j]?:=λj hj=>by
      rw[hL.cellAt (i*4+j) ae]
      have key:∀(m:Nat),i<m→((List.range m).flatMap λi=>Jm (((x.sheets[i]?).map (eF x)).getD (0,0,0,[])) (vh i))[i*4+j]?=(Jm (eF x f) (.slice ai (eF x f).2.2.2.length ci))[j]?:=by
       intro m hm;have h1:=M4 (n:=4) (css:=(List.range m).map λi=>Jm (((x.sheets[i]?).map (eF x)).getD (0,0,0,[])) (vh i)) (λc hc=>by obtain⟨_,_,rfl⟩:=dz.1 hc;rfl) i j bC hj;unfold List.flatMap;rw[h1];simp[hf,ev]
      exact key k hi
     have aj1:=HR.o.list.lt g rfl
     exact⟨g,f,ai,_,ci,rfl,hf,aj1.2,λe=>by have:=aj1.1;omega,hh,hcell 0 ae,hcell 1 ae,hcell 2 ae,hcell 3 ae⟩)
   have HBw:=HR.o.bel;have pG:=U HBw;have apH:=U HR.o.wk;have hBw:w.heap.size<B:=akl;have aDI:B<wr.heap.size:=HXB.o.lt;clear HBw;obtain⟨wL,hwL⟩:∃wL:World,wL=wr:=⟨_,rfl⟩;subst hwL;have aaL:Hid ((mQ x).length=k∧∀i f,x.sheets[i]?=some f→(mQ x)[i]?=some (x.sheets.map (jW x f))):=U ⟨by unfold mQ;rw[List.length_map];exact hn.o,λi f hf=>by unfold mQ;rw[List.getElem?_map,hf];rfl⟩;go_wp2
   go_loopw [100] (λacW wr=>∃(i:Nat) (v10:Value),i≤k∧acW=.int .i64 i∧Hid (Bx B (rR cx v9 v10) wr)∧Hid (Own Shape.int.list (λb=>b≠B) wr wL.heap.size 53 v10 ((mQ x).take i))∧Hid (aA (λq=>q=B∨wL.heap.size≤q) wL wr)) (λacW _=>k-(intOf acW).toNat)
   case atStart=>exact⟨0,.slice none 0 0,ae,rfl,HXB,U (by simpa using Own.nil),U (aA.refl _ _)⟩
   case round=>
    clear HXB;obtain⟨i,v10,hi,rfl,HXB,HO,HT⟩:=hrel;have hzL:=HT.o.size;by_cases Q4:i<k
    ·go_wp2_with fail;obtain⟨wi,rfl⟩:∃wi:World,wi=wr:=⟨_,rfl⟩
     go_loopw [14,105] (λR5 acY wr=>∃(j:Nat) (v14:Value) (f:aQ),j≤k∧acY=.int .i64 j∧R5=v14∧x.sheets[i]?=some f∧Hid (pK 3 wi.heap.size wr v14 ((x.sheets.map (jW x f)).take j))∧Hid (aA (λq=>wi.heap.size≤q) wi wr)) (λ_ acY _=>k-(intOf acY).toNat)
     case atStart=>
      obtain⟨g,f,ai,ni,ci,h1,h2,_⟩:=Mj.o i Q4;exact⟨0,_,f,ae,rfl,rfl,h2,U (Di aj),U (aA.refl _ _)⟩
     case round=>
      obtain⟨j,v14,f,hj,rfl,rfl,hf,YB,Ml⟩:=hrel;have DV:=U hf;clear hf;have hzi:=Ml.o.size;have lJ:=U (HT.o.trans (Ml.o.mono (own':=λq=>q=B∨wL.heap.size≤q) λq h=>.inr ae));by_cases hlj:j<k
      ·obtain⟨g,f1,a1,n1,c1,eg,hf1,lg,hBg,ht1,p0,p1,p2,p3⟩:=Mj.o i Q4;obtain⟨g',f2,a2,n2,c2,eg',hf2,_,_,ht2,r0,r1,r2,r3⟩:=Mj.o j hlj;subst eg;cases eg';have ef:f1=f:=by have h:=DV.o;rw[hf1]at h;exact P9 h
       subst ef;have kp:∀o v,wL.cell? ⟨g,o,none⟩=some v→wr.cell? ⟨g,o,none⟩=some v:=λo v h=>(iL (a:=⟨g,o,none⟩) (lJ.o.block g lg (λh=>by rcases h with h|h;exact hBg h.symm;omega))).trans h;have p0:=kp _ _ p0;have p1:=kp _ _ p1;have p2:=kp _ _ p2;have p3:=kp _ _ p3;have r0:=kp _ _ r0;have r1:=kp _ _ r1;have r2:=kp _ _ r2;have r3:=kp _ _ r3;have lg2:g<wr.heap.size:=ae;have Am:=U (apH.o.turns lJ.o (λh=>Gw));have d1:=Am.o.cell 1;have d2:=Am.o.cell 2;have l0:=Am.o.lt;rw[jV.o]at d1 d2;simp only[dm,aK,bB]at d1 d2;have fP:=U (aA.below pG.o lJ.o (by have:=pG.o.size;omega) (λq h=>at7));have hS1:=dO.o.sht (qX hf1);have hS2:=dO.o.sht (qX hf2);obtain⟨z1,y1,hy1,-,e1,-⟩:=WU hS1.sta;obtain⟨z2,y2,hy2,-,e2,-⟩:=WU hS2.sta;have o1:=Sq z1 hy1;have o2:=Sq z1 hy2;have q1:=adD z1 hy1;have q2:=adD z1 hy2;rw[←e1]at o1 q1;rw[←e2]at o2 q2
       have Tj:Hid (∀W,BL wr W→Calls prog 140 #[.agg #[x.fixed,x.each],.agg #[.int .i64 (eF x f1).1,.int .i64 (eF x f1).2.1,.int .i64 (eF x f1).2.2.1,.slice a1 n1 c1],.agg #[.int .i64 (eF x f2).1,.int .i64 (eF x f2).2.1,.int .i64 (eF x f2).2.2.1,.slice a2 n2 c2]] W λe w'=>e=.returned (.tuple #[.int .i64 (jW x f1 f2),.int .i64 0])∧BL W w'):=U (λW hb=>azh x.fixed x.each _ _ _ _ _ _ _ _ _ _ W (ht1.below (Bl.call fP.o hb)) (ht2.below (Bl.call fP.o hb)) (λs hs=>by
        simp only[mP,Ec,Bp]at hs;rcases hs with rfl|rfl
        ·exact q1 _ aj
        ·exact q2 _ aj) o1.2.1.1 o1.2.1.2 o1.2.2.1.1 o1.2.2.1.2 o2.2.1.1 o2.2.1.2 o2.2.2.1.1 o2.2.2.1.2 dO.o.wind)
       have kR:Hid ((x.sheets.map (jW x f1)).take (j+1)=(x.sheets.map (jW x f1)).take j++[jW x f1 f2]):=U (by
        have hjl:j<(x.sheets.map (jW x f1)).length:=by rw[fC];have:=hn.o;omega
        rw[jF hjl,lK]
        congr 3
        have:=(gN.1 hf2).2;exact this)
       have HLEN:Hid (((x.sheets.map (jW x f1)).take j).length=j):=U (by rw[oF,fC];have:=hn.o;omega);clear z1 z2 e1 e2 o1 o2 q1 q2 hS1 hS2 ht1 ht2 hf1 hf2 kp hy1 hy2;generalize (eF x f1).1=s11 at *;generalize (eF x f1).2.1=s12 at *;generalize (eF x f1).2.2.1=s13 at *;generalize (eF x f2).1=WC at *;generalize (eF x f2).2.1=Jj at *;generalize (eF x f2).2.2.1=WE at *;generalize jW x f1 f2=z at *;have i1:(0:Int)≤(i:Int):=ae;have i2:(i:Int)<(k:Int):=ae;have j1:(0:Int)≤(j:Int):=ae;have j2:(j:Int)<(k:Int):=ae;go_wp2;refine iQ [11] [11] 0 [] [(1,[0,1,2,3,4,5,6,7,8,9,10],11)] [12,13,14,15,16] [] [(1,[_,_,_,_,_,_,_,_,_,_,_],11,_)] [_,_,_,_,_] ?_;refine aH (iP ?_)
       (repeat(go_big_quiet_step (fail)));refine aH ?_
       intro nq;have hbq:BL wr (wr.drewN nq):=Bl.drewN (aB _ _) nq;go_wp2_with fail;refine(Tj.o _ hbq).mono ?_;rintro e w2 ⟨rfl,hb2⟩;have ajG:=Bl.call hbq hb2;go_wp2;refine bS _ rfl (qy ?_)
       (repeat(go_big_quiet_step (fail)));refine aH ?_
       intro n2;have hb3:BL wr (w2.drewN n2):=Bl.drewN ajG n2;have HB3:=U hb3;have ja:=U (il YB.o hb3);obtain⟨Ig,c14,e14⟩:=lu ja.o;rw[HLEN.o]at e14;subst e14;have Tz:=ja.o;unfold pK jd at Tz;rw[HLEN.o]at Tz;replace ja:=U Tz;have hz3:=hb3.size;clear Tz hbq hb2 ajG hb3 p0 p1 p2 p3 r0 r1 r2 r3 d1 d2 l0;generalize w2.drewN n2=w3 at *;obtain⟨i0,hi,hz0,hz1,hz2⟩:=dY (show(prog.info? 3).map (λi=>(i.zero,i.size,i.bytes))=some (some (.int .i64 0),1,8)from aF);have auO:k≤64:=hns;go_wp2_with (at_builtin;go_loud (refine iE (ja.o.alloc _) ⟨w3.heap.size,0,none⟩ 1 1 [z] hi hz0 hz1 hz2 ?_);intro v15 Ot IQ IL abB;obtain⟨MJ,c15,rfl⟩:=bv IQ)
       have apy:aA (λq=>wi.heap.size≤q) wi Ot:=((Ml.o.trans (aA.of_below HB3.o)).trans (aA.alloc _ w3 (.cells #[z] 3))).trans (aA.grown IL (λq hq=>(ja.o.lt q hq).1));refine⟨⟨j+1,_,f1,ae,aY,rfl,DV.o,U ?_,U apy⟩,GG⟩;rw[kR.o];exact xk IQ (by rw[HLEN.o]) rfl
      ·obtain rfl:j=k:=ae;have ape:Hid ((mQ x)[i]?=some (x.sheets.map (jW x f))):=U (aaL.o.2 i f DV.o);have jm:Hid ((x.sheets.map (jW x f)).length=j):=U (by rw[fC];exact hn.o);have Ty:=YB.o;rw[FY (by rw[jm.o];omega)]at Ty;obtain⟨Ig,c14,e14⟩:=lu Ty;rw[jm.o]at e14;subst e14;have Ca:=U Ty;clear Ty YB;have Ua:=HXB.o.turns Ml.o ae;have ES:=(Ua.cell 10).trans (Dq bE.o).2.1;have lB:=Ua.lt;have kP:=HO.o.keep (Ml.o.same (A':=λb=>b≠B∨some b=v10.ownBlock) (λb hb hl h=>ae));obtain⟨jw,c10,e10⟩:=kP.slice;have abw:((mQ x).take i).length=i:=by rw[oF,aaL.o.1];omega
       rw[abw]at e10;subst e10;have hro:=U (λq (e:(Value.slice jw i c10).ownBlock=some q)=>HO.o.lt q e);have HXA:=U Ua
       have aiQ:Shape.int.list.reads (λb=>b≠B∧some b≠(Value.slice jw i c10).ownBlock) (wr.alloc (.cells #[.slice Ig j c14] 53)) [.slice Ig j c14] (x.sheets.map (jW x f)):=xh yD (RG (il Ca.o (Bl.alloc (aB _ _) _))) (λb hb=>by
        have h1:=(Ca.o.lt b hb).1
        exact⟨ae,λe=>by have:=(hro.o b e.symm).2;omega⟩)
       have BP:=U aiQ;have afj:=kP.keep (Same.below (Bl.alloc (aB wr.heap.size wr) (.cells #[.slice Ig j c14] 53)):Same (λb=>b≠B∨some b=(Value.slice jw i c10).ownBlock) _ _);obtain⟨cs,hr,hap⟩:=K7 afj;rw[abw]at hr;have HR2:=U hr;have vB:=U hap;clear aiQ hr hap kP afj Ua;obtain⟨i0,hi,hz0,hz1,hz2⟩:=dY avK;have auO:j≤64:=hns;have i1:(0:Int)≤(i:Int):=ae;go_wp2_with (at_builtin;go_loud (refine iE (HR2.o) ⟨wr.heap.size,0,none⟩ 1 1 [.slice Ig j c14] hi hz0 hz1 hz2 ?_);intro v15 Ot IQ IL abB;obtain⟨MJ,c15,rfl⟩:=bv IQ;have oM:=(HXA.o.alloc (.cells #[.slice Ig j c14] 53)).grown IL (λe=>by have:=(hro.o _ e.symm).1;omega);have aET:=(oM.cell 10).trans (Dq bE.o).2.1;have aFk:=oM.free 10;have VX:=oM.lt)
       have yQ:aA (λq=>q=B∨wL.heap.size≤q) wL (Ot.setCell ⟨B,10,none⟩ (.slice MJ (i+1) c15)):=(((HT.o.trans (Ml.o.mono (own':=λq=>q=B∨wL.heap.size≤q) λq h=>.inr ae)).trans (aA.alloc _ wr (.cells #[.slice Ig j c14] 53))).trans (aA.grown IL (λq hq=>.inr (hro.o q hq).1))).trans (aA.setCell _ _ _ _ (.inl rfl));refine⟨⟨i+1,.slice MJ (i+1) c15,ae,aY,U ?_,U ?_,U yQ⟩,GG⟩
       ·have:=oM.set 10 (.slice MJ (i+1) c15) (by rw[(Dq bE.o).2.2.1];omega);rw[(Dq bE.o).2.2.2.2.1]at this;exact this
       ·have h1:=vB.o Ot (.slice MJ (i+1) c15) (x.sheets.map (jW x f)) [.slice Ig j c14] BP.o (by rw[abw];exact IQ) IL abB;have h2:(mQ x).take (i+1)=(mQ x).take i++[x.sheets.map (jW x f)]:=by rw[List.take_succ,ape.o];rfl
        rw[h2]
        exact h1.keep ((Same.setCell Ot ⟨B,10,none⟩ (.slice MJ (i+1) c15)).mono (λb h=>by
         rcases h with h|h
         ·exact h
         ·have:=(IQ.lt b h.symm).1;show b≠B;omega))
    ·obtain rfl:i=k:=ae;go_wp2;go_ret2;have fP:=aA.below pG.o HT.o (by have:=pG.o.size;omega) (λq h=>at7);have hk:∀q,q<wL.heap.size→q≠B→wr.heap[q]?=wL.heap[q]?:=λq hq hne=>HT.o.block q hq (λh=>by rcases h with h|h;exact hne h;omega);refine⟨fP,.inr ⟨aox.o,B,rfl,ae,⟨cx,v9,v10,HXB.o,bZ.o.below fP,?_,λh1=>?_,?_⟩⟩⟩
     ·have:=HO.o.list;rw[FY (by rw[aaL.o.1];omega)]at this;exact this
     ·have hP:=HR.o.ptrs;rcases hP.2 with⟨_,h0⟩|⟨q,cap,cur,h',hq,_⟩
      ·exact iH
      ·subst h';have hl:=hP.lt q rfl;refine⟨q,0,cap,by rw[hn.o],λi' f hf=>?_⟩
       have hi':i'<i:=by
        rcases ZA i' x.sheets.length with h|h
        ·exact iH
        ·rw[wT h]at hf;cases hf
       refine⟨Cf i',?_,(HR.o.sh i' f hi' hf).2 wr ⟨HT.o.size,λb hb hlb=>hk b hlb (λe=>HR.o.zB (by rw[←e];exact hb))⟩⟩;rw[iL (a:=⟨q,0+i',none⟩) (hk q hl.2 ae),oJ,hP.cellAt i' ae];simp[hi']
     ·obtain⟨a,c,e⟩:=bv HR.o.ptrs;exact⟨a,c,by rw[hn.o];exact e⟩
end
end Go.Proofs.YtfmckbjeofiegaaGreat
