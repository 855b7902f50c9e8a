/- Part 14 of a proof. -/
import Derived.Test.YtfmckbjeofiegaaGreatA8
import Derived.Test.YtfmckbjeofiegaaGreatA10
import Derived.Test.YtfmckbjeofiegaaGreatA11
set_option maxRecDepth 100000
set_option maxHeartbeats 16000000
set_option linter.all false
open Go Go.RowKit Go.Proofs.Tryz
namespace Go.Proofs.YtfmckbjeofiegaaGreat
variable {a:Act}{K:Act→World→Prop}{Q:Exit→Act→World→Prop}{F:Fence}{P:Program}{v v':Value}{w':World}
theorem ad1{n:Nat}{w:World}(R:Act→World→Prop){c:Code}(h1:Stop (c.wpIn F n P (Exit.then R Q) a w))(h2:Stop (∀a w,R a w→K a w)):c.wpIn F n P (Exit.then K Q) a w:=
 SK h1.o λe a w h=>by cases e<;>first|exact h2.o a w h|exact h
theorem aA.trans2{own own':Nat→Prop}{A B C:World}(h:aA own A B)(k:aA own' B C)(ho:∀q,own' q→own q∨A.heap.size≤q):aA own A C:=
 ⟨k.os.trans h.os,k.tape.trans h.tape,k.output.trans h.output,fK h.size k.size,λq hq hn=>(k.block q (nH hq h.size) λx=>(ho q x).elim hn λy=>ae).trans (h.block q hq hn)⟩
theorem nI.trans{w:World}{v'':Value}(h:nI w v v')(k:nI w' v' v'')(hs:w.heap.size≤w'.heap.size):nI w v v'':=by
 rcases k with k|⟨q,k,hq⟩
 ·unfold nI;rw[k];exact h
 ·exact .inr ⟨q,k,ae⟩
section
variable {α:Type} {e n:Nat} {enc:α→List Value} {w0 W X Y wr:World} {ob B:Nat} {own own' Rd E:Nat→Prop} {v v':Value} {xs ys:List α}
def LQ(e n:Nat)(enc:α→List Value)(w0:World)(ob B:Nat)(own:Nat→Prop)(xs:List α)(W:World):Prop:=
 ∃v,Bx ob [v] W∧jd e n enc (B+2) W v xs∧(∀k,v.ownBlock=some k→¬own k)∧BL w0 W
theorem agY(h:LQ e n enc w0 ob B own xs X)(h0:w0.heap.size≤B)(zo:ob<B)(ho:∀k,own k→B+2≤k∧k<X.heap.size)(M7:B≤X.heap.size)
  (ht:aA (λk=>own k∨k=B∨k=B+1) X Y) (hw:∀k,own' k→own k∨(X.heap.size≤k∧k<Y.heap.size)):LQ e n enc w0 ob B own' xs Y:=by
 obtain⟨v,hv,hr,hd,hb⟩:=h;refine⟨v,hv.turns ht λh=>?_,fO hr ht λk hk h=>?_,λk hk hk'=>?_,aA.below hb ht ae λk h=>?_⟩
 ·rcases h with h|h|h
  ·have:=ho ob h;omega
  ·omega
  ·omega
 ·have hlt:=hr.lt k hk;rcases h with h|h|h
  ·exact hd k hk h
  ·omega
  ·omega
 ·rcases hw k hk' with h|h
  ·exact hd k hk h
  ·have:=(hr.lt k hk).2;omega
 ·rcases h with h|h|h
  ·exact KE
  ·omega
  ·omega
theorem agZ(hd:∀k,v.ownBlock=some k→¬own k)(hr:jd e n enc (B+2) W v xs)(hb:BL w0 W)(h0:w0.heap.size≤ob)(zo:ob<B)(ho:∀k,own k→B+2≤k∧k<W.heap.size)(hB:B+2≤W.heap.size)
  (qK:∀k,Rd k→k<B∧k≠ob) (hE:∀k,E k→B+2≤k∧¬own k) (hx:Bx ob [v'] wr) (hr':jd e n enc (B+2) wr v' ys) (ht:aA (λk=>k=ob∨E k∨v.ownBlock=some k) W wr) (hn:nI W v v') :
  fG B Rd own W wr∧LQ e n enc w0 ob B own ys wr:=by
 have hno:∀k,(Rd k∨own k∨k=B∨k=B+1)→k<W.heap.size∧¬(k=ob∨E k∨v.ownBlock=some k):=λk hk=>by
  have h1:v.ownBlock=some k→B+2≤k∧k<W.heap.size:=λe=>hr.lt k e;have h2:=hE k;rcases hk with h|h|h|h
  ·have:=qK k h;exact⟨ae,λx=>alT⟩
  ·have:=ho k h;exact⟨ae,λx=>by rcases x with x|x|x;omega;exact(h2 x).2 h;exact hd k x h⟩
  ·exact⟨ae,λx=>alT⟩
  ·exact⟨ae,λx=>alT⟩
 refine⟨⟨ht.size,λk hk=>ht.block k (hno k hk).1 (hno k hk).2⟩,v',hx,hr',λk hk hk'=>?_,aA.below hb ht ae λk h=>?_⟩
 ·rcases hn with hn|⟨q,hn,hq⟩
  ·exact hd k (hn ▸ hk) hk'
  ·rw[hn]at hk;cases hk;have:=ho _ hk';omega
 ·rcases h with h|h|h
  ·omega
  ·have:=hE k h;omega
  ·have:=hr.lt k h;omega
end
section
attribute [local go_sem] Qv
def ZI(w:World)(e:Ending)(w':World):Prop:=(∃b:Bool,e=.returned (.bool b))∧BL w w'
theorem aCa(f:aQ)(cf:List Value)(w:World)(h:nW w f cf):Calls prog 27 #[.agg cf.toArray] w (ZI w):=by
 have HL:=U h.len;obtain⟨vt,vb,vr,vs,vm,vn,Gj,⟨h1,h2,h3,h4⟩,h5,h6⟩:=h;obtain⟨at',ct,rfl,-,-⟩:=(Shape.list_far h1).shape;obtain⟨ab,cb,rfl,-,-⟩:=(Shape.list_far h2).shape;obtain⟨ar,cr,rfl,-,-⟩:=(Shape.list_far h3).shape;obtain⟨as',cs',rfl,-,-⟩:=(Shape.list_far h4).shape;obtain⟨am,cm,rfl,-,-⟩:=(Shape.list_far h5).shape;obtain⟨an,cn,rfl,-,-⟩:=(Shape.list_far h6).shape;obtain⟨S,hS⟩:=nm (iq f.sheet (.slice at' f.sheet.trace.length ct) (.slice ab f.sheet.blots.length cb) (.slice ar f.sheet.drum.1.length cr) (.slice as' f.sheet.drum.2.length cs'));have xM:Hid (S.length=18):=U Gz;have tO:Hid (∀u∈S,u.oneCell'=true):=U (by rw[←hS.o];exact Lr rfl rfl rfl rfl);have HP:Hid ((cf.drop 4).take 18=S):=U (by rw[Gj,←hS.o];rfl);have gy:=U Gj;clear h1 h2 h3 h4 h5 h6 Gj;have HX:=U (Bx.new (W:=w) (t:=65) (vs:=cf) rfl);have HB:=U (Bl.alloc (aB w.heap.size w) (.cells cf.toArray 65));have HC:=U (Cx.part HX.o HP.o);have dQ:=Bl.alloc (aB (w.alloc (.cells cf.toArray 65)).heap.size (w.alloc (.cells cf.toArray 65))) (.cells S.toArray 61);have HX:=U (HX.o.next dQ);have HY:=U (Bx.new (W:=w.alloc (.cells cf.toArray 65)) (B:=w.heap.size+1) (t:=61) (vs:=S) aj);have HB:=U (Bl.call HB.o dQ);clear dQ;go_in
 go_wp2_with (first|(refine dh fZ rfl HC.o xM.o ?_)|(refine xA (cs:=S) fZ rfl rfl aj rfl xM.o tO.o ?_;refine Stop.o ?_))
 clear HC;generalize (w.alloc (.cells cf.toArray 65)).alloc (.cells S.toArray 61)=w1 at *;obtain⟨b1,hb⟩:∃b,Hid (w.heap.size+1=b):=⟨_,U rfl⟩;rw[hb.o]at HY ⊢;refine⟨?_⟩;have y1:w1.cell? ⟨b1,1,none⟩=some (.int .i64 f.sheet.paper.height):=(HY.o.cell 1).trans Gz;have y10:w1.cell? ⟨b1,10,none⟩=some (.slice at' f.sheet.trace.length ct):=(HY.o.cell 10).trans Gz;have y11:w1.cell? ⟨b1,11,none⟩=some (.slice ab f.sheet.blots.length cb):=(HY.o.cell 11).trans Gz;have y12:w1.cell? ⟨b1,12,none⟩=some (.slice ar f.sheet.drum.1.length cr):=(HY.o.cell 12).trans Gz;have y13:w1.cell? ⟨b1,13,none⟩=some (.slice as' f.sheet.drum.2.length cs'):=(HY.o.cell 13).trans Gz;have y14:w1.cell? ⟨b1,14,none⟩=some (.int .i64 f.sheet.band):=(HY.o.cell 14).trans Gz;have y15:w1.cell? ⟨b1,15,none⟩=some (.int .i64 f.sheet.zlo):=(HY.o.cell 15).trans Gz;have y16:w1.cell? ⟨b1,16,none⟩=some (.int .i64 f.sheet.zhi):=(HY.o.cell 16).trans Gz;have y17:w1.cell? ⟨b1,17,none⟩=some (.int .i64 f.sheet.rate):=(HY.o.cell 17).trans Gz;have x22:w1.cell? ⟨w.heap.size,22,none⟩=some (.slice am f.marks.length cm):=(HX.o.cell 22).trans lY;have x23:w1.cell? ⟨w.heap.size,23,none⟩=some (.slice an f.names.length cn):=(HX.o.cell 23).trans lY
 have ly:=HY.o.lt;have lx:=HX.o.lt;by_cases h0:f.sheet.paper.height≤20000
 rotate_left
 ·have t:decide (f.sheet.paper.height≤20000)=false:=Jk;clear h0;go_wp2;go_ret;exact⟨⟨_,rfl⟩,HB.o⟩
 by_cases h1:(f.sheet.trace.length:Int)≤20
 rotate_left
 ·have t:decide ((f.sheet.trace.length:Int)≤20)=false:=qO;clear h1;go_wp2;go_ret;exact⟨⟨_,rfl⟩,HB.o⟩
 by_cases h2:(f.sheet.blots.length:Int)≤20
 rotate_left
 ·have t:decide ((f.sheet.blots.length:Int)≤20)=false:=xw;clear h2;go_wp2;go_ret;exact⟨⟨_,rfl⟩,HB.o⟩
 by_cases h3:(f.sheet.drum.1.length:Int)≤3
 rotate_left
 ·have t:decide ((f.sheet.drum.1.length:Int)≤3)=false:=EU;clear h3;go_wp2;go_ret;exact⟨⟨_,rfl⟩,HB.o⟩
 by_cases h4:(f.sheet.drum.2.length:Int)≤3
 rotate_left
 ·have t:decide ((f.sheet.drum.2.length:Int)≤3)=false:=Jl;clear h4;go_wp2;go_ret;exact⟨⟨_,rfl⟩,HB.o⟩
 by_cases h5:(f.marks.length:Int)≤8
 rotate_left
 ·have t:decide ((f.marks.length:Int)≤8)=false:=by simpa using h5
  clear h5;go_wp2;go_ret;exact⟨⟨_,rfl⟩,HB.o⟩
 by_cases h6:(f.names.length:Int)≤20
 rotate_left
 ·have t:decide ((f.names.length:Int)≤20)=false:=adw;clear h6;go_wp2;go_ret;exact⟨⟨_,rfl⟩,HB.o⟩
 by_cases h7:f.sheet.band≤2
 rotate_left
 ·have t:decide (f.sheet.band≤2)=false:=by simpa using h7
  clear h7;go_wp2;go_ret;exact⟨⟨_,rfl⟩,HB.o⟩
 by_cases h8:f.sheet.rate≤30
 rotate_left
 ·have t:decide (f.sheet.rate≤30)=false:=by simpa using h8
  clear h8;go_wp2;go_ret;exact⟨⟨_,rfl⟩,HB.o⟩
 go_wp2;go_ret;exact⟨⟨_,rfl⟩,HB.o⟩
theorem azK(id x y week:Int)(v:Value)(l:List mo)(w:World)(hv:aC Shape.trip w v l)(hl:pR l=true)(hw:0≤week):Calls prog 199 #[.agg #[id,x,y,v],week] w (Kc (zn l week) w):=by
 obtain⟨a,cp,rfl,hc1,hc2⟩:=hv.shape;unfold maxLen at hc2;have HV:=U hv;clear hv;obtain⟨o1,o2,o3,o4,o5⟩:=auG hl;have HO:=U o1;have H0:=U o4;clear o1 o4 o5 hl;go_in;go_wp2_with fail;refine(bsearch _ l week _ (HV.o.below Ku) HO.o o3).mono ?_;rintro e w1 ⟨c,rfl,g1,g2,g3,hb⟩;have X0:Bx w.heap.size [id,x,y,.slice a l.length cp] w1:=uu;have X1:Bx (w.heap.size+1) [.int .i64 0,.int .i64 0] w1:=uu;have B1:BL w w1:=Ku;have c0:=X0.cell;have q0:=X0.lt;have c1:=X1.cell;have z1:=X1.free;have q1:=X1.lt;have TP:=U (HV.o.below B1);clear X0 X1 hb
 have Tn:∀k,k<l.length→∃b off,a=some ⟨b,off,none⟩∧b<w.heap.size:=λk hk=>by
  obtain⟨b',o',e',f1,_⟩:=HV.o.trip_at hk;have hq:=fe _ _ f1;exact⟨b',o',e',hq⟩
 by_cases h:c<l.length∧(hgt l c).1=week
 ·have t0:decide (c<l.length∧(hgt l c).1=week)=true:=wu;have HR:Hid (zn l week=(hgt l c).2):=U (ajS h.1 ae (λj h1 h2=>by have:=HO.o c j h1 h2;omega));have h1:=h.1;rw[t0];clear h t0;obtain⟨b,off,e1,d1,d2,d3⟩:=TP.o.trip_at h1;obtain⟨b',off',e',hbw⟩:=Tn _ h1;have HE:=U (IM h1);have i2:(c:Int)<l.length:=ae;have i1:(0:Int)≤(c:Int):=ae;subst e1;cases e';generalize l[c]=s at *;obtain⟨s1,s2,s3⟩:=s;simp only at d1 d2 d3;have hbb:=fe _ _ d1;dsimp only at hbb hbw;have n1:¬w.heap.size+1=b:=ae;have n2:¬b=w.heap.size+1:=ae;clear Tn;go_wp2;refine kE (v:=.agg #[s2,s3]) azU rfl ⟨by rw[HR.o,HE.o],?_⟩;exact ul
 ·have t0:decide (c<l.length∧(hgt l c).1=week)=false:=wu
  have hc0:0<c:=by
   rcases pJ c with e|e
   ·subst e;exfalso;have:=g3 0 ae ae;exact h ⟨ae,by have:=H0.o;omega⟩
   ·exact e
  obtain⟨m,rfl⟩:∃m,c=m+1:=⟨c-1,ae⟩
  have HR:Hid (zn l week=(hgt l m).2):=U (ajS ae (by have:=g2 m ae;omega) (λj h1 h2=>by
   by_cases e:j=m+1
   ·subst e;have:=g3 (m+1) ae h2;have hne:(hgt l (m+1)).1≠week:=λe=>h ⟨h2,e⟩;omega
   ·have:=HO.o (m+1) j ae h2;have:=g3 (m+1) ae ae
    omega))
  have h1:m<l.length:=ae;rw[t0];clear h t0;have w1:IntKind.i64.wrap ((m:Int)+1-1)=(m:Int):=dE _ ae |>.trans ae;obtain⟨b,off,e1,d1,d2,d3⟩:=TP.o.trip_at h1;obtain⟨b',off',e',hbw⟩:=Tn _ h1;have HE:=U (IM h1);have i2:(m:Int)<l.length:=ae;have i1:(0:Int)≤(m:Int):=ae;subst e1;cases e';generalize l[m]=s at *;obtain⟨s1,s2,s3⟩:=s;simp only at d1 d2 d3;have hbb:=fe _ _ d1;dsimp only at hbb hbw;have n1:¬w.heap.size+1=b:=ae;have n2:¬b=w.heap.size+1:=ae;clear Tn;go_wp2;refine kE (v:=.agg #[s2,s3]) azU rfl ⟨by rw[HR.o,HE.o],?_⟩;exact ul
end
end Go.Proofs.YtfmckbjeofiegaaGreat
