/- Part 27 of a proof. -/
import Derived.Test.YtfmckbjeofiegaaGreatA25
set_option maxRecDepth 100000
set_option maxHeartbeats 16000000
set_option linter.all false
open Go Go.RowKit Go.Proofs.Tryz
namespace Go.Proofs.YtfmckbjeofiegaaGreat
variable {f:aQ}{fn:Func}{L:List Sp}{cs:List Value}{B c i k lo:Nat}{P:Program}{α:Type}{ty:TypeId}{x:aJ}{W w':World}
section
attribute [local go_sem] Qv
def iK(x:aJ):Prop:=∃m,F6 x m
theorem RegionAt.regW(h:RegionAt x B W)(hn:1≤x.sheets.length):∃q o c vs cx,Cz B q o x.sheets.length c vs (zq x) (zN x) (mQ x) W∧dM W x cx∧(∀j,j<9→vs[j]?=cx[j]?)∧∀i f,x.sheets[i]?=some f→∃C,W.cell? ⟨q,o+i,none⟩=some (.pointer (some ⟨C,0,none⟩))∧Kg x f C W:=by
 obtain⟨cx,v9,vb,h1,h2,h3,h4,_⟩:=h.bx;obtain⟨q,o,c,rfl,h5⟩:=h4 hn;have hl:=h2.len;refine⟨q,o,c,_,cx,⟨h1,(Dq hl).1,⟨vb,(Dq hl).2.1,h3⟩,λi hi=>?_⟩,h2,(Dq hl).2.2.2.2.2,h5⟩;have hf:=di hi;obtain⟨C,k1,K,cs,vh,vt,k2,_,_,k3⟩:=h5 i _ hf;exact⟨C,_,vt,k1,k2,by rw[Rc hf];rfl,by rw[Rc hf];rfl,rfl,by rw[Xd hf];exact k3⟩
def Tc(g:Nat)(lb:Array Value)(b:Bool)(w:World):Prop:=∀W,BL w W→Calls prog g lb W (oK b W)
def agu(zero:Value)(x:aJ)(b:Bool)(T:World→Nat→Ending→World→Prop)(w:World)(e:Ending)(w':World):Prop:=
 BL w w'∧((dA x≠0∧e=.returned (.tuple #[zero,.int .i64 (dA x)]))∨(dA x=0∧b=false∧e=.returned (.tuple #[zero,.int .i64 1]))∨(dA x=0∧b=true∧¬Fits x∧e=.returned (.tuple #[zero,.int .i64 2]))∨(dA x=0∧b=true∧Fits x∧¬iK x∧e=.returned (.tuple #[zero,.int .i64 71]))∨(dA x=0∧b=true∧Fits x∧iK x∧∃W B,BL w W∧RegionAt x B W∧T W B e w'))
def aeb(zero:Value)(x:aJ)(i:Int)(T:World→Nat→aQ→Ending→World→Prop)(w:World)(e:Ending)(w':World):Prop:=
 BL w w'∧((dA x≠0∧e=.returned (.tuple #[zero,.int .i64 (dA x)]))∨(dA x=0∧¬(0≤i∧i<x.sheets.length)∧e=.returned (.tuple #[zero,.int .i64 1]))∨(dA x=0∧∃f,0≤i∧x.sheets[i.toNat]?=some f∧((gG x f=true∧e=.returned (.tuple #[zero,.int .i64 2]))∨(gG x f=false∧∃W C cs,BL w W∧mI x f f.station C cs W∧T W C f e w'))))
theorem Xk(x:aJ)(cx:List Value)(i:Int)(w:World)(hx:dM w x cx):Calls prog 38 #[.agg cx.toArray,i] w (oK (decide (0≤i∧i<x.sheets.length)) w):=by
 obtain⟨va,vs,vr,rfl,hX⟩:=hx;obtain⟨kD,jI,rfl,hs1,hs2⟩:=hX.sheets.shape;unfold maxLen at hs2;clear hX;go_in;go_wp2_with (with_reducible_and_instances refine dI 6 ?_)
 have aZ:=Bx.new (W:=w) (t:=30) (vs:=dm x va (.slice kD x.sheets.length jI) vr) rfl;have HB0:=U (Bl.alloc (aB w.heap.size w) (.cells (dm x va (.slice kD x.sheets.length jI) vr).toArray 30));generalize w.alloc (.cells (dm x va (.slice kD x.sheets.length jI) vr).toArray 30)=w0 at *;refine⟨?_⟩;have c7:=aZ.cell 7;have l0:=aZ.lt;simp only[dm,aK,bB]at c7;by_cases h:0≤i
 ·go_wp2;go_ret;exact⟨bu (by simp[h]),HB0.o⟩
 ·have h':decide (0≤i)=false:=wu;go_wp2;go_ret;exact⟨bu (by simp[h]),HB0.o⟩
theorem Kg.below{C:Nat}{w:World}(h:Kg x f C w)(hb:BL w w'):Kg x f C w':=by
 obtain⟨K,cs,vh,vt,h1,h2,h3,h4⟩:=h;exact⟨K,cs,vh,vt,h1.next hb,h2.below hb,h3.below hb,h4.below hb⟩
theorem RegionAt.below{w:World}(h:RegionAt x B w)(hb:BL w w'):RegionAt x B w':=by
 obtain⟨cx,v9,vb,h1,h2,h3,h4,h5⟩:=h.bx;refine⟨cx,v9,vb,h1.next hb,h2.below hb,h3.below hb,λhn=>?_,h5⟩;obtain⟨q,o,c,e,h6⟩:=h4 hn;refine⟨q,o,c,e,λi f hf=>?_⟩;obtain⟨C,k1,k2⟩:=h6 i f hf;exact⟨C,(hb.cell (fe _ _ k1)).trans k1,k2.below hb⟩
theorem anL(x:aJ)(cx:List Value)(b:Bool)(g1 g2:Nat)(uL lV:Array Value)(T:World→Nat→Ending→World→Prop)(w:World)(hx:dM w x cx)(hn:b=true→1≤x.sheets.length)(he1:Enters prog g1)(h1:Tc g1 uL b w)(he2:Enters prog g2)
  (h2:dA x=0→b=true→Fits x→iK x→∀W B,BL w W→RegionAt x B W→Calls prog g2 (#[.pointer (some ⟨B,0,none⟩)]++lV) W λe w'=>(∃v q,e=.returned (.tuple #[v,.int .i64 q]))∧BL W w'∧T W B e w') :
  Calls prog 36 #[.agg cx.toArray,.func (.func g1) #[] uL,.func (.func g2) #[] lV] w (agu (.slice none 0 0) x b T w):=by
 have bZ:=U hx;have bE:=U hx.len;have HN:=U hn;have H1:=U h1;have H2:=U h2;have ajK:∀(args:Array Value) (w:World),(callFunc g1 args).run prog w=.ok (.enter g1 args) w:=he1;have VH:∀(args:Array Value) (w:World),(callFunc g2 args).run prog w=.ok (.enter g2 args) w:=he2;clear hx hn h1 h2 he1 he2;go_in;go_wp2_with (with_reducible_and_instances refine dI 10 ?_)
 have aZ:=U (Bx.new (W:=w) (t:=30) (vs:=cx) rfl);have HB0:=U (Bl.alloc (aB w.heap.size w) (.cells cx.toArray 30));generalize w.alloc (.cells cx.toArray 30)=w0 at *;refine⟨?_⟩;have HC:=U (Cx.whole aZ.o);obtain⟨z,hz⟩:=nm (dA x);go_wp2_with (refine dh bK rfl HC.o bE.o ?_)
 refine(SG x cx w0 (bZ.o.below HB0.o)).mono ?_;rintro e w1 ⟨rfl,hb1⟩;rw[hz.o];have aZ:=U (aZ.o.next hb1);have HB1:=U (Bl.call HB0.o hb1);clear hb1 HB0 HC;by_cases hz0:z=0
 ·subst hz0;go_wp2_with fail;refine(H1.o w1 HB1.o).mono ?_;rintro e w2 ⟨rfl,hb2⟩;have bg:=U (aZ.o.next hb2);have HB2:=U (Bl.call HB1.o hb2);have HC:=U (Cx.whole bg.o);clear hb2 HB1 aZ
  cases b with
  |false=>
   go_wp2;go_ret2;exact⟨HB2.o,.inr (.inl ⟨hz.o,rfl,rfl⟩)⟩
  |true=>
   have hn1:=HN.o rfl;have XJ:=U (H2.o hz.o rfl);go_wp2_with (refine dh bK rfl HC.o bE.o ?_)
   refine(ad7 x cx w2 (bZ.o.below HB2.o) (ma hz.o)).mono ?_;rintro e w3 ⟨hb3,hP⟩;have HB3:=U (Bl.call HB2.o hb3);clear hb3;rcases hP with⟨hnf,rfl⟩|⟨hf,B,rfl,hBw,hR⟩
   ·have O8:=U hnf;clear hnf;go_wp2;go_ret2;exact⟨HB3.o,.inr (.inr (.inl ⟨hz.o,aj,O8.o,rfl⟩))⟩
   ·have HF:=U hf;have HR:=U hR;clear hf hR;obtain⟨q,o,c,vs,Em,jh,_⟩:=HR.o.regW hn1;have HRW:=U jh;clear jh;go_wp2_with fail;refine(acV B q o x.sheets.length c vs (zq x) (zN x) (mQ x) w3 HRW.o (NV (ma hz.o) HF.o hn1)).mono ?_;rintro e w4 ⟨hb4,b4,rfl,hb4i⟩;have bX:=U (Bl.call HB3.o hb4);have D8:Hid (b4=true↔iK x):=U (by rw[hb4i];unfold iK;simp only[WP]);have HR4:Hid (RegionAt x B w4):=U (HR.o.below hb4);clear hb4 hb4i
    cases b4 with
    |false=>
     have BV:Hid (¬iK x):=U (λh=>by have:=D8.o.2 h;cases this);go_wp2;go_ret2;exact⟨bX.o,.inr (.inr (.inr (.inl ⟨hz.o,rfl,HF.o,BV.o,rfl⟩)))⟩
    |true=>
     have HW:Hid (iK x):=U (D8.o.1 aj);go_wp2_with fail;refine(XJ.o HF.o HW.o w4 B bX.o HR4.o).mono ?_;rintro e w5 ⟨⟨v,q5,rfl⟩,hb5,hT⟩;have eD:=U (Bl.call bX.o hb5);have HT:=U hT;clear hb5 hT;go_wp2;go_ret2;exact⟨eD.o,.inr (.inr (.inr (.inr ⟨hz.o,rfl,HF.o,HW.o,w4,B,bX.o,HR4.o,HT.o⟩)))⟩
 ·have HZ0:=U hz0;have q1:(z != 0)=true:=WN;clear hz0;go_wp2;go_ret2;exact⟨HB1.o,.inl ⟨acS,acT⟩⟩
theorem aBW(x:aJ)(cx:List Value)(b:Bool)(g1 g2:Nat)(uL lV:Array Value)(T:World→Nat→Ending→World→Prop)(w:World)(hx:dM w x cx)(hn:b=true→1≤x.sheets.length)(he1:Enters prog g1)(h1:Tc g1 uL b w)(he2:Enters prog g2)
  (h2:dA x=0→b=true→Fits x→iK x→∀W B,BL w W→RegionAt x B W→Calls prog g2 (#[.pointer (some ⟨B,0,none⟩)]++lV) W λe w'=>(∃v q,e=.returned (.tuple #[v,.int .i64 q]))∧BL W w'∧T W B e w') :
  Calls prog 52 #[.agg cx.toArray,.func (.func g1) #[] uL,.func (.func g2) #[] lV] w (agu (.int .i64 0) x b T w):=by
 have bZ:=U hx;have bE:=U hx.len;have HN:=U hn;have H1:=U h1;have H2:=U h2;have ajK:∀(args:Array Value) (w:World),(callFunc g1 args).run prog w=.ok (.enter g1 args) w:=he1;have VH:∀(args:Array Value) (w:World),(callFunc g2 args).run prog w=.ok (.enter g2 args) w:=he2;clear hx hn h1 h2 he1 he2;go_in;go_wp2_with (with_reducible_and_instances refine dI 10 ?_)
 have aZ:=U (Bx.new (W:=w) (t:=30) (vs:=cx) rfl);have HB0:=U (Bl.alloc (aB w.heap.size w) (.cells cx.toArray 30));generalize w.alloc (.cells cx.toArray 30)=w0 at *;refine⟨?_⟩;have HC:=U (Cx.whole aZ.o);obtain⟨z,hz⟩:=nm (dA x);go_wp2_with (refine dh bK rfl HC.o bE.o ?_)
 refine(SG x cx w0 (bZ.o.below HB0.o)).mono ?_;rintro e w1 ⟨rfl,hb1⟩;rw[hz.o];have aZ:=U (aZ.o.next hb1);have HB1:=U (Bl.call HB0.o hb1);clear hb1 HB0 HC;by_cases hz0:z=0
 ·subst hz0;go_wp2_with fail;refine(H1.o w1 HB1.o).mono ?_;rintro e w2 ⟨rfl,hb2⟩;have bg:=U (aZ.o.next hb2);have HB2:=U (Bl.call HB1.o hb2);have HC:=U (Cx.whole bg.o);clear hb2 HB1 aZ
  cases b with
  |false=>
   go_wp2;go_ret2;exact⟨HB2.o,.inr (.inl ⟨hz.o,rfl,rfl⟩)⟩
  |true=>
   have hn1:=HN.o rfl;have XJ:=U (H2.o hz.o rfl);go_wp2_with (refine dh bK rfl HC.o bE.o ?_)
   refine(ad7 x cx w2 (bZ.o.below HB2.o) (ma hz.o)).mono ?_;rintro e w3 ⟨hb3,hP⟩;have HB3:=U (Bl.call HB2.o hb3);clear hb3;rcases hP with⟨hnf,rfl⟩|⟨hf,B,rfl,hBw,hR⟩
   ·have O8:=U hnf;clear hnf;go_wp2;go_ret2;exact⟨HB3.o,.inr (.inr (.inl ⟨hz.o,aj,O8.o,rfl⟩))⟩
   ·have HF:=U hf;have HR:=U hR;clear hf hR;obtain⟨q,o,c,vs,Em,jh,_⟩:=HR.o.regW hn1;have HRW:=U jh;clear jh;go_wp2_with fail;refine(acV B q o x.sheets.length c vs (zq x) (zN x) (mQ x) w3 HRW.o (NV (ma hz.o) HF.o hn1)).mono ?_;rintro e w4 ⟨hb4,b4,rfl,hb4i⟩;have bX:=U (Bl.call HB3.o hb4);have D8:Hid (b4=true↔iK x):=U (by rw[hb4i];unfold iK;simp only[WP]);have HR4:Hid (RegionAt x B w4):=U (HR.o.below hb4);clear hb4 hb4i
    cases b4 with
    |false=>
     have BV:Hid (¬iK x):=U (λh=>by have:=D8.o.2 h;cases this);go_wp2;go_ret2;exact⟨bX.o,.inr (.inr (.inr (.inl ⟨hz.o,rfl,HF.o,BV.o,rfl⟩)))⟩
    |true=>
     have HW:Hid (iK x):=U (D8.o.1 aj);go_wp2_with fail;refine(XJ.o HF.o HW.o w4 B bX.o HR4.o).mono ?_;rintro e w5 ⟨⟨v,q5,rfl⟩,hb5,hT⟩;have eD:=U (Bl.call bX.o hb5);have HT:=U hT;clear hb5 hT;go_wp2;go_ret2;exact⟨eD.o,.inr (.inr (.inr (.inr ⟨hz.o,rfl,HF.o,HW.o,w4,B,bX.o,HR4.o,HT.o⟩)))⟩
 ·have HZ0:=U hz0;have q1:(z != 0)=true:=WN;clear hz0;go_wp2;go_ret2;exact⟨HB1.o,.inl ⟨acS,acT⟩⟩
theorem aBr(x:aJ)(cx:List Value)(i:Int)(g2:Nat)(lV:Array Value)(T:World→Nat→aQ→Ending→World→Prop)(w:World)(hx:dM w x cx)(he2:Enters prog g2)
  (h2:∀W C cs f,dA x=0→gG x f=false→(0≤i∧x.sheets[i.toNat]?=some f)→BL w W→mI x f f.station C cs W→Calls prog g2 (#[.pointer (some ⟨C,0,none⟩)]++lV) W λe w'=>(∃v q,e=.returned (.tuple #[v,.int .i64 q]))∧BL W w'∧T W C f e w') :
  Calls prog 28 #[.agg cx.toArray,i,.func (.func 29) #[] #[],.func (.func g2) #[] lV] w (aeb (.slice none 0 0) x i T w):=by
 have bZ:=U hx;have bE:=U hx.len;have H2:=U h2;have VH:∀(args:Array Value) (w:World),(callFunc g2 args).run prog w=.ok (.enter g2 args) w:=he2;clear hx h2 he2;go_in;go_wp2_with (with_reducible_and_instances refine dI 12 ?_)
 have aZ:=U (Bx.new (W:=w) (t:=30) (vs:=cx) rfl);have HB0:=U (Bl.alloc (aB w.heap.size w) (.cells cx.toArray 30));generalize w.alloc (.cells cx.toArray 30)=w0 at *;refine⟨?_⟩;have HC:=U (Cx.whole aZ.o);obtain⟨z,hz⟩:=nm (dA x);go_wp2_with (refine dh bK rfl HC.o bE.o ?_)
 refine(SG x cx w0 (bZ.o.below HB0.o)).mono ?_;rintro e w1 ⟨rfl,hb1⟩;rw[hz.o];have aZ:=U (aZ.o.next hb1);have HB1:=U (Bl.call HB0.o hb1);clear hb1 HB0 HC;by_cases hz0:z=0
 ·subst hz0;have HC:=U (Cx.whole aZ.o);obtain⟨qb,uH⟩:∃q,Hid (decide (0≤i∧i<x.sheets.length)=q):=⟨_,U rfl⟩;go_wp2_with (refine dh bK rfl HC.o bE.o ?_)
  refine(Xk x cx i w1 (bZ.o.below HB1.o)).mono ?_;rintro e w2 ⟨rfl,hb2⟩;rw[uH.o];have bg:=U (aZ.o.next hb2);have HB2:=U (Bl.call HB1.o hb2);clear hb2 HB1 aZ HC
  cases qb with
  |false=>
   go_wp2;go_ret2;exact⟨HB2.o,.inr (.inl ⟨hz.o,Wd uH.o,rfl⟩)⟩
  |true=>
   have hi:=EN uH.o;obtain⟨hi1,hi2⟩:=hi;obtain⟨n,rfl⟩:∃n:Nat,i=n:=⟨i.toNat,ae⟩;obtain⟨f,hf⟩:∃f,Hid (x.sheets[n]?=some f):=⟨_,U (di ae)⟩;go_wp2_with fail;refine(adT w2).mono ?_;rintro e w3 ⟨rfl,rfl⟩;have HB3:=HB2;have HC:=U (Cx.whole bg.o);clear HB2;go_wp2_with (refine dh bK rfl HC.o bE.o ?_)
   refine(Xi x f cx n w2 w2 (Same.refl _ _) (bZ.o.below HB3.o) (ma hz.o) hf.o).mono ?_;rintro e w4 ⟨hb4,hP⟩;have bX:=U (Bl.call HB3.o hb4);clear hb4;rcases hP with⟨cO,rfl⟩|⟨cO,C,cs,rfl,uE,hC2,hCH⟩
   ·have nE:=U cO;clear cO;go_wp2;go_ret2;exact⟨bX.o,.inr (.inr ⟨hz.o,f,ae,Sj,.inl ⟨nE.o,rfl⟩⟩)⟩
   ·have nE:=U cO;have DT:=U (hCH w4 (Same.refl _ _));clear cO hCH;go_wp2_with fail;refine(H2.o w4 C cs f hz.o nE.o ⟨ae,Sj⟩ bX.o DT.o).mono ?_;rintro e w5 ⟨⟨v,q5,rfl⟩,hb5,hT⟩;have eD:=U (Bl.call bX.o hb5);have HT:=U hT;clear hb5 hT;go_wp2;go_ret2;exact⟨eD.o,.inr (.inr ⟨hz.o,f,ae,Sj,.inr ⟨nE.o,w4,C,cs,bX.o,DT.o,HT.o⟩⟩)⟩
 ·have HZ0:=U hz0;have q1:(z != 0)=true:=WN;clear hz0;go_wp2;go_ret2;exact⟨HB1.o,.inl ⟨acS,acT⟩⟩
theorem aBq(x:aJ)(cx:List Value)(i:Int)(g2:Nat)(lV:Array Value)(T:World→Nat→aQ→Ending→World→Prop)(w:World)(hx:dM w x cx)(he2:Enters prog g2)
  (h2:∀W C cs f,dA x=0→gG x f=false→(0≤i∧x.sheets[i.toNat]?=some f)→BL w W→mI x f f.station C cs W→Calls prog g2 (#[.pointer (some ⟨C,0,none⟩)]++lV) W λe w'=>(∃v q,e=.returned (.tuple #[v,.int .i64 q]))∧BL W w'∧T W C f e w') :
  Calls prog 55 #[.agg cx.toArray,i,.func (.func 29) #[] #[],.func (.func g2) #[] lV] w (aeb (.slice none 0 0) x i T w):=by
 have bZ:=U hx;have bE:=U hx.len;have H2:=U h2;have VH:∀(args:Array Value) (w:World),(callFunc g2 args).run prog w=.ok (.enter g2 args) w:=he2;clear hx h2 he2;go_in;go_wp2_with (with_reducible_and_instances refine dI 12 ?_)
 have aZ:=U (Bx.new (W:=w) (t:=30) (vs:=cx) rfl);have HB0:=U (Bl.alloc (aB w.heap.size w) (.cells cx.toArray 30));generalize w.alloc (.cells cx.toArray 30)=w0 at *;refine⟨?_⟩;have HC:=U (Cx.whole aZ.o);obtain⟨z,hz⟩:=nm (dA x);go_wp2_with (refine dh bK rfl HC.o bE.o ?_)
 refine(SG x cx w0 (bZ.o.below HB0.o)).mono ?_;rintro e w1 ⟨rfl,hb1⟩;rw[hz.o];have aZ:=U (aZ.o.next hb1);have HB1:=U (Bl.call HB0.o hb1);clear hb1 HB0 HC;by_cases hz0:z=0
 ·subst hz0;have HC:=U (Cx.whole aZ.o);obtain⟨qb,uH⟩:∃q,Hid (decide (0≤i∧i<x.sheets.length)=q):=⟨_,U rfl⟩;go_wp2_with (refine dh bK rfl HC.o bE.o ?_)
  refine(Xk x cx i w1 (bZ.o.below HB1.o)).mono ?_;rintro e w2 ⟨rfl,hb2⟩;rw[uH.o];have bg:=U (aZ.o.next hb2);have HB2:=U (Bl.call HB1.o hb2);clear hb2 HB1 aZ HC
  cases qb with
  |false=>
   go_wp2;go_ret2;exact⟨HB2.o,.inr (.inl ⟨hz.o,Wd uH.o,rfl⟩)⟩
  |true=>
   have hi:=EN uH.o;obtain⟨hi1,hi2⟩:=hi;obtain⟨n,rfl⟩:∃n:Nat,i=n:=⟨i.toNat,ae⟩;obtain⟨f,hf⟩:∃f,Hid (x.sheets[n]?=some f):=⟨_,U (di ae)⟩;go_wp2_with fail;refine(adT w2).mono ?_;rintro e w3 ⟨rfl,rfl⟩;have HB3:=HB2;have HC:=U (Cx.whole bg.o);clear HB2;go_wp2_with (refine dh bK rfl HC.o bE.o ?_)
   refine(Xi x f cx n w2 w2 (Same.refl _ _) (bZ.o.below HB3.o) (ma hz.o) hf.o).mono ?_;rintro e w4 ⟨hb4,hP⟩;have bX:=U (Bl.call HB3.o hb4);clear hb4;rcases hP with⟨cO,rfl⟩|⟨cO,C,cs,rfl,uE,hC2,hCH⟩
   ·have nE:=U cO;clear cO;go_wp2;go_ret2;exact⟨bX.o,.inr (.inr ⟨hz.o,f,ae,Sj,.inl ⟨nE.o,rfl⟩⟩)⟩
   ·have nE:=U cO;have DT:=U (hCH w4 (Same.refl _ _));clear cO hCH;go_wp2_with fail;refine(H2.o w4 C cs f hz.o nE.o ⟨ae,Sj⟩ bX.o DT.o).mono ?_;rintro e w5 ⟨⟨v,q5,rfl⟩,hb5,hT⟩;have eD:=U (Bl.call bX.o hb5);have HT:=U hT;clear hb5 hT;go_wp2;go_ret2;exact⟨eD.o,.inr (.inr ⟨hz.o,f,ae,Sj,.inr ⟨nE.o,w4,C,cs,bX.o,DT.o,HT.o⟩⟩)⟩
 ·have HZ0:=U hz0;have q1:(z != 0)=true:=WN;clear hz0;go_wp2;go_ret2;exact⟨HB1.o,.inl ⟨acS,acT⟩⟩
theorem V3(x:aJ)(hx:fM x)(hf:qG x f)(hl:gG x f=false):(aL x f).length≤1000000:=by
 have:=ahj (x:=x) (f:=f) (by have:=(xY hx hf).band;omega) hl;omega
theorem aBc(x:aJ)(f:aQ)(C:Nat)(cs:List Value)(w:World)(h0:dA x=0)(hl:gG x f=false)(hf:f∈x.sheets)(hC:mI x f f.station C cs w):
  Calls prog 30 #[.pointer (some ⟨C,0,none⟩)] w λe w'=>(∃v q,e=.returned (.tuple #[v,.int .i64 q]))∧BL w w'∧((aP (jO x f) 0=[]∧e=.returned (.tuple #[.slice none 0 0,.int .i64 71]))∨(aP (jO x f) 0≠[]∧∃v,e=.returned (.tuple #[v,.int .i64 0])∧aC Shape.span.list w' v (jO x f))):=by
 have hx:=ma h0;have hs:=hx.sht hf;have HE:=U (ahq x f f.station C cs 0 none 0 [] true w hC hx hs hl (V3 x hx hs hl) (Aq.nil w) (by have:=hx.ticks;omega));have hlen:0<(jO x f).length:=by unfold jO;rw[Qz];have:=hx.ticks;omega
 have HA:Hid (qJ (aL x f) x.ticks (bT x f f.station 0 [] true)=jO x f):=U rfl;clear hx hs h0 hl hf hC;go_in;go_wp2_with fail;refine HE.o.mono ?_;rintro e w1 ⟨v,rfl,hL,hb1⟩;rw[HA.o]at hL;obtain⟨a,c,rfl,hc1,hc2⟩:=hL.shape;obtain⟨b,o,v0,rfl,hbl,d0,hL0⟩:=hL.list_at hlen;obtain⟨a0,c0,rfl,hc3,hc4⟩:=hL0.shape;unfold maxLen at hc2 hc4;have HL:=U hL;have HB:=U hb1;have HZ:Hid ((jO x f)[0]=aP (jO x f) 0):=U (by unfold aP;rw[List.getD_eq_getElem?_getD,List.getElem?_eq_getElem hlen,Option.getD_some]);rw[HZ.o]at hc3;rw[oI,HZ.o]at d0;obtain⟨n,hn⟩:=nm ((jO x f).length);obtain⟨n0,hn0⟩:∃n,Hid ((aP (jO x f) 0).length=n):=⟨_,U rfl⟩;have BS:=HL.o;rw[hn.o]at BS hlen hc1 ⊢;rw[hn0.o]at d0 hc3;replace HL:=U BS;clear hL hL0 hb1 BS;by_cases hz:n0=0
 ·subst hz;have Fg:Hid (aP (jO x f) 0=[]):=U (List.length_eq_zero_iff.1 hn0.o);have i2:(0:Int)<(n:Int):=ae;go_wp2;go_ret2;exact⟨⟨_,_,rfl⟩,HB.o,.inl ⟨Fg.o,rfl⟩⟩
 ·have Fg:Hid (aP (jO x f) 0≠[]):=U (λh=>hz (by rw[←hn0.o,h];rfl));have i2:(0:Int)<(n:Int):=ae;have q0:((n0:Int)==0)=false:=by simpa using hz
  clear hz;go_wp2;go_ret2;exact⟨⟨_,_,rfl⟩,HB.o,.inr ⟨Fg.o,_,rfl,HL.o⟩⟩
def Uk(ok:List (List Sp)→Prop)(bad:Prop)(w:World)(e:Ending)(w':World):Prop:=BL w w'∧((∃q,q≠0∧bad∧e=.returned (.tuple #[.slice none 0 0,.int .i64 q]))∨(∃v l,ok l∧e=.returned (.tuple #[v,.int .i64 0])∧aC Shape.span.list w' v l))
def Oz(x:aJ)(i:Int)(l:List (List Sp)):Prop:=dA x=0∧∃f,0≤i∧x.sheets[i.toNat]?=some f∧gG x f=false∧aP (jO x f) 0≠[]∧l=jO x f
theorem adQ(x:aJ)(cx:List Value)(i:Int)(w:World)(hx:dM w x cx):
  Calls prog 9 #[.agg cx.toArray,i] w (Uk (Oz x i) (¬ ∃l,Oz x i l) w):=by
 have bZ:=U hx;have bE:=U hx.len;clear hx;go_in;go_wp2_with (with_reducible_and_instances refine dI 6 ?_)
 have aZ:=U (Bx.new (W:=w) (t:=30) (vs:=cx) rfl);have HB0:=U (Bl.alloc (aB w.heap.size w) (.cells cx.toArray 30));generalize w.alloc (.cells cx.toArray 30)=w0 at *;refine⟨?_⟩;have HC:=U (Cx.whole aZ.o);go_wp2_with (refine dh bK rfl HC.o bE.o ?_)
 refine(aBr x cx i 30 #[] (λ_ _ f e w'=>(aP (jO x f) 0=[]∧e=.returned (.tuple #[.slice none 0 0,.int .i64 71]))∨(aP (jO x f) 0≠[]∧∃v,e=.returned (.tuple #[v,.int .i64 0])∧aC Shape.span.list w' v (jO x f))) w0 (bZ.o.below HB0.o) (fo func30 aF rfl) (λW C cs f h0 hl hf hb hC=>by simpa using aBc x f C cs W h0 hl (qX hf.2) hC)).mono ?_;rintro e w1 ⟨hb1,hP⟩;have HB1:=U (Bl.call HB0.o hb1);clear hb1;rcases hP with⟨h,rfl⟩|⟨h,h2,rfl⟩|⟨h,f,hi,hf,hP⟩
 ·have HF:=U h;clear h;obtain⟨z,hz⟩:=nm (dA x);rw[hz.o];go_wp2;go_ret2;exact⟨HB1.o,.inl ⟨z,WA,λ⟨l,h,_⟩=>HF.o h,rfl⟩⟩
 ·have HF:=U h2;clear h h2;go_wp2;go_ret2
  exact⟨HB1.o,.inl ⟨1,ae,λ⟨l,_,f,h0,h1,_⟩=>HF.o ⟨h0,by
   rcases ZA i.toNat x.sheets.length with h|h
   ·omega
   ·rw[wT h]at h1;cases h1⟩,rfl⟩⟩
 ·have HF:=U hf;have H0:=U h;have HI:=U hi;rcases hP with⟨h,rfl⟩|⟨h,W,C,cs,_,_,hT⟩
  ·have HL:=U h;clear h hf hi;go_wp2;go_ret2;exact⟨HB1.o,.inl ⟨2,ae,(λ⟨l,_,f',_,h1,h2,_⟩=>by rw[HF.o]at h1;cases h1;rw[HL.o]at h2;cases h2),rfl⟩⟩
  ·have HL:=U h;rcases hT with⟨h,rfl⟩|⟨h,v,rfl,hv⟩
   ·have HE:=U h;clear h hf hi;go_wp2;go_ret2;exact⟨HB1.o,.inl ⟨71,ae,(λ⟨l,_,f',_,h1,_,h2,_⟩=>by rw[HF.o]at h1;cases h1;exact h2 HE.o),rfl⟩⟩
   ·have HE:=U h;have HV:=U hv;clear h hf hi hv;go_wp2;go_ret2;exact⟨HB1.o,.inr ⟨v,jO x f,⟨H0.o,f,HI.o,HF.o,HL.o,HE.o,rfl⟩,rfl,HV.o⟩⟩
theorem awY{l:List α}{a:α}(h:l[i]?=some a):i<l.length:=(gN.1 h).1
theorem anj{w:World}{a:Option Addr}(hx:fM x)(hfit:Fits x)(hf:x.sheets[i]?=some f)(hL:qH x i L)(hl:aC Shape.span w (.slice a L.length c) L):Aq w a c L:=by
 have hm:=qX hf;have ho:=acs hx (hx.sht hm) (hfit f hm)
 have hb:∀s∈L,0≤s.1∧s.2≤12000:=V9 hL.1.1 λv hv=>by
  have h1:=((GK hf hL v).1 hv).1;exact ak9 ho.2 h1
 have hn:=zC hL.1 hb ae;exact⟨hl,hL.1,λs hs=>by have:=hb s hs;omega,ae⟩
theorem aBk(x:aJ)(i:Nat)(f:aQ)(B Bs Bw:Nat)(cx:List Value)(w:World)(h0:dA x=0)(hfit:Fits x)(hR:RegionAt x B w)(hfi:x.sheets[i]?=some f)(hs:Bx Bs [i] w)(hw:Bx Bw cx w)(hx:dM w x cx):
  Calls prog 39 #[.pointer (some ⟨B,0,none⟩),.pointer (some ⟨Bs,0,none⟩),.pointer (some ⟨Bw,0,none⟩)] w λe w'=>(∃v q,e=.returned (.tuple #[v,.int .i64 q]))∧BL w w'∧∃v L,qH x i L∧e=.returned (.tuple #[v,.int .i64 0])∧aC Shape.span.list w' v (xq x f L):=by
 have hok:=ma h0;have hi:=awY hfi;have hm:=qX hfi;have hns:=hok.sheets;obtain⟨q,o,c,vs,Em,jh,_,_,hsh⟩:=hR.regW ae;obtain⟨C,d1,K,cs,vh,vt,hC,hK,_,_⟩:=hsh i f hfi;obtain⟨va,vs',vr,jR,_⟩:=hx;have c9:=(jh.bx.cell 9).trans jh.s9;have l9:=jh.bx.lt;have cK:=hC.cell 0;have lC:=hC.lt;have cs0:=hs.cell 0;have ls:=hs.lt;have cw3:=hw.cell 3;have lw:=hw.lt;have lq:=fe _ _ d1;dsimp only at lq;obtain⟨tm,C8⟩:∃m:Nat,Hid (x.term=(m:Int)):=⟨x.term.toNat,U (by have:=hok.term;omega)⟩;rw[jR]at cw3;simp only[dm,WG,aK,bB]at cw3 cK cs0;rw[C8.o]at cw3;have HRW:=U jh;have jM:=U (NV hok hfit ae);have HK:=U hK;have HE:=U (λ(W:World) (a:Option Addr) (cc:Nat) (L:List Sp) (hb:BL w W) (hL:qH x i L) (hl:aC Shape.span W (.slice a L.length cc) L)=>ahq x f f.station K cs tm a cc L false W (hK.below hb) hok (hok.sht hm) (hfit f hm) (V3 x hok (hok.sht hm) (hfit f hm)) (anj hok hfit hfi hL hl) (by have:=hok.term;have:=C8.o;omega));have qR:Hid (∀L,qJ (aL x f) x.ticks (bT x f f.station tm L false)=xq x f L):=U (λL=>by unfold xq;rw[C8.o];rfl);obtain⟨n,hn⟩:=nm x.sheets.length;rw[hn.o]at c9 hi hns;have i1:(0:Int)≤(i:Int):=ae;have i2:(i:Int)<(n:Int):=ae;clear h0 hok hfit hR hs hw jh hsh hC hK jR hfi hm
 go_in;go_wp2;refine iQ [16] [15,16] 1 [] [(0,[0,1,2,3,4,5,6,7,8,9,10,11,12,13,14],15),(1,[],16)] [17,18] [] [(0,[_,_,_,_,_,_,_,_,_,_,_,_,_,_,_],15,_),(1,[],16,_)] [_,_] ?_;refine aH (ku ?_)
 (repeat(go_big_quiet_step (fail)));refine aH ?_
 intro w1 hb1;go_wp2_with fail;refine(acJ B q o x.sheets.length c i vs (zq x) (zN x) (mQ x) w1 (HRW.o.below hb1) jM.o iH).mono ?_;rintro e w2 ⟨v2,L,rfl,hO2,hL,hb2⟩;obtain⟨a2,c2,rfl⟩:=bv hO2;have HB2:=U (Bl.call hb1 hb2);have bL:=U (jT hO2);have HL:=U (show qH x i L from hL);have hup:=U (Bl.call hb1 hb2);clear hO2 hL;go_wp2;refine dZ HB2.o (rW ?_);go_wp2_with fail;refine(HE.o w2 a2 c2 L HB2.o HL.o bL.o).mono ?_;rintro e w3 ⟨v,rfl,hv,hb3⟩;rw[qR.o]at hv;have HV:=U hv;have HB3:=U (Bl.call HB2.o hb3);clear hv hb1 hb2 hb3;go_wp2;refine bS _ rfl (qy ?_)
 (repeat(go_big_quiet_step (fail)));refine aH ?_
 intro nq;go_wp2;go_ret2;exact⟨⟨_,_,rfl⟩,Bl.drewN HB3.o nq,v,L,HL.o,rfl,HV.o.below (Bl.drewN (aB _ _) nq)⟩
def Eb(x:aJ)(i:Int)(l:List (List Sp)):Prop:=dA x=0∧Fits x∧iK x∧∃f L,0≤i∧x.sheets[i.toNat]?=some f∧qH x i.toNat L∧l=xq x f L
def PQ(x:aJ)(i:Int):Prop:=¬(dA x=0∧(0≤i∧i<x.sheets.length)∧Fits x∧iK x)
theorem aBj(x:aJ)(i:Int)(Bw Bs:Nat)(cx:List Value)(w:World)(hw:Bx Bw cx w)(hs:Bx Bs [i] w)(hx:dM w x cx):Tc 37 #[.pointer (some ⟨Bw,0,none⟩),.pointer (some ⟨Bs,0,none⟩)] (decide (0≤i∧i<x.sheets.length)) w:=by
 intro W hb;have HC:=U (Cx.whole (hw.next hb));have bE:=U hx.len;have bZ:=U (hx.below hb);have X:=hs.next hb;have s0:=X.cell 0;have ls:=X.lt;simp only[aK]at s0;clear hw hs hx X;go_in;go_wp2_with (refine dh bK rfl HC.o bE.o ?_)
 refine(Xk x cx i W bZ.o).mono ?_;rintro e w2 ⟨rfl,hb2⟩;obtain⟨q,hq⟩:=nm (decide (0≤i∧i<x.sheets.length));rw[hq.o];go_wp2;go_ret;exact⟨bu (by rw[hq.o]),hb2⟩
theorem Ju(x:aJ)(cx:List Value)(i:Int)(w:World)(hx:dM w x cx):
  Calls prog 12 #[.agg cx.toArray,i] w (Uk (Eb x i) (PQ x i) w):=by
 have bZ:=U hx;have bE:=U hx.len;clear hx;go_in;go_wp2_with (with_reducible_and_instances refine dI 6 ?_)
 have bg:=U ((Bx.new (W:=w) (t:=30) (vs:=cx) rfl).alloc (.cells #[i] 3));have bP:=U (Bx.new (W:=w.alloc (.cells cx.toArray 30)) (B:=w.heap.size+1) (t:=3) (vs:=[.int .i64 i]) aj);have HB0:=U (Bl.alloc (Bl.alloc (aB w.heap.size w) (.cells cx.toArray 30)) (.cells #[i] 3));generalize (w.alloc (.cells cx.toArray 30)).alloc (.cells #[i] 3)=w0 at *;refine⟨?_⟩;have HC:=U (Cx.whole bg.o);go_wp2_with (refine dh bK rfl HC.o bE.o ?_)
 refine(anL x cx (decide (0≤i∧i<x.sheets.length)) 37 39 #[.pointer (some ⟨w.heap.size,0,none⟩),.pointer (some ⟨w.heap.size+1,0,none⟩)] #[.pointer (some ⟨w.heap.size+1,0,none⟩),.pointer (some ⟨w.heap.size,0,none⟩)] (λ_ _ e w'=>∃v l,Eb x i l∧e=.returned (.tuple #[v,.int .i64 0])∧aC Shape.span.list w' v l) w0 (bZ.o.below HB0.o) (λh=>by have:=EN h;omega) (fo func37 aF rfl) (aBj x i w.heap.size (w.heap.size+1) cx w0 bg.o bP.o (bZ.o.below HB0.o)) (fo func39 aF rfl) (λh0 hb hfit bY W B hbW hR=>by
  have hi:=EN hb;obtain⟨n,hn⟩:∃n:Nat,i=n:=⟨i.toNat,ae⟩;obtain⟨f,hf⟩:∃f,x.sheets[n]?=some f:=⟨_,di ae⟩;refine OC (aBk x n f B (w.heap.size+1) w.heap.size cx W h0 hfit hR hf (by rw[←hn];exact bP.o.next hbW) (bg.o.next hbW) ((bZ.o.below HB0.o).below hbW)) ?_;rintro e w' ⟨h1,h2,v,L,hL,h3,h4⟩
  exact⟨h1,h2,v,_,⟨h0,hfit,bY,f,L,hi.1,by rw[hn];exact hf,by rw[hn];exact hL,rfl⟩,h3,h4⟩)).mono ?_
 rintro e w1 ⟨hb1,hP⟩;have HB1:=U (Bl.call HB0.o hb1);clear hb1;rcases hP with⟨h,rfl⟩|⟨h,h2,rfl⟩|⟨h,_,h2,rfl⟩|⟨h,_,h2,h3,rfl⟩|⟨h,_,_,_,W,B,_,_,v,l,hl,rfl,hv⟩
 ·have HF:=U h;clear h;obtain⟨z,hz⟩:=nm (dA x);rw[hz.o];go_wp2;go_ret2;exact⟨HB1.o,.inl ⟨z,WA,λh=>HF.o h.1,rfl⟩⟩
 ·have HF:=U (Wd h2);clear h h2;go_wp2;go_ret2;exact⟨HB1.o,.inl ⟨1,ae,λh=>HF.o h.2.1,rfl⟩⟩
 ·have HF:=U h2;clear h h2;go_wp2;go_ret2;exact⟨HB1.o,.inl ⟨2,ae,λh=>HF.o h.2.2.1,rfl⟩⟩
 ·have HF:=U h3;clear h h2 h3;go_wp2;go_ret2;exact⟨HB1.o,.inl ⟨71,ae,λh=>HF.o h.2.2.2,rfl⟩⟩
 ·have HL:=U hl;have HV:=U hv;clear h hl hv;go_wp2;go_ret2;exact⟨HB1.o,.inr ⟨v,l,HL.o,rfl,HV.o⟩⟩
def Ki(x:aJ)(k:Nat)(l:List (List Sp)):Prop:=l.length=k∧∀i,i<k→qH x i (aP l i)
theorem Ki.snoc{l:List (List Sp)}(h:Ki x k l)(hL:qH x k L):Ki x (k+1) (l++[L]):=by
 refine⟨by rw[dn,h.1];rfl,λi hi=>?_⟩;unfold aP;rw[bN];by_cases e:i<k
 ·rw[PU (by rw[h.1];exact e)];have:=h.2 i e;unfold aP at this;rw[bN]at this;exact this
 ·obtain rfl:i=k:=ae;rw[PV (by rw[h.1];omega),h.1,Nat.sub_self];exact hL
theorem aBo(x:aJ)(B:Nat)(w:World)(h0:dA x=0)(hfit:Fits x)(hn:1≤x.sheets.length)(hR:RegionAt x B w):
  Calls prog 54 #[.pointer (some ⟨B,0,none⟩)] w λe w'=>(∃v q,e=.returned (.tuple #[v,.int .i64 q]))∧BL w w'∧∃v l,Ki x x.sheets.length l∧e=.returned (.tuple #[v,.int .i64 0])∧aC Shape.span.list w' v l:=by
 have hok:=ma h0;have hns:=hok.sheets;obtain⟨q,o,c,vs,Em,jh,_⟩:=hR.regW hn;have HRW:=U jh;have jM:=U (NV hok hfit hn);obtain⟨n,hnn⟩:=nm x.sheets.length;have c9:=(jh.bx.cell 9).trans jh.s9;have l9:=jh.bx.lt;rw[hnn.o]at c9 hns;obtain⟨i0,hi,hz0,hz1,hz2⟩:=dY Rj;clear h0 hok hfit hR jh hn;go_in;go_wp2_with fail;clear c9 l9
 go_loopw [4,11] (λou iv wr=>∃(k:Nat) (l:List (List Sp)),k≤n∧iv=.int .i64 k∧Hid (Ki x k l)∧Hid (Own Shape.span.list (λ_=>True) wr w.heap.size 54 ou l)∧BL w wr) (λ_ iv _=>n-(intOf iv).toNat)
 case atStart=>exact⟨0,[],ae,rfl,U ⟨rfl,λi hi=>ae⟩,U Own.nil,aB _ _⟩
 case round=>
  obtain⟨k,M,hk,rfl,HT,HO,hb⟩:=hrel;obtain⟨a5,c5,rfl⟩:=HO.o.slice;have hlen:=HT.o.1;obtain⟨m,hm⟩:=nm M.length;have hmk:m=k:=VA;subst hmk;by_cases hlt:m<n
  ·go_wp2_with fail;refine(acJ B q o x.sheets.length c m vs (zq x) (zN x) (mQ x) wr (HRW.o.below hb) jM.o Nc).mono ?_;rintro e w1 ⟨v,g,rfl,hO1,hTX,hb1⟩;obtain⟨a8,c8,rfl⟩:=bv hO1;have bL:=U (HO.o.below hb1);have HG:=U hO1;have HTX:=U (show qH x m g from hTX);have hb2:=Bl.call hb hb1;have hsz:=hb2.size;clear hO1 hTX hlen;have ja:=bL.o.below (Bl.alloc (aB w1.heap.size w1) (.cells #[.slice a8 g.length c8] 54))
   have BP:Hid (Shape.span.list.reads (λb=>True∧some b≠(Value.slice a5 M.length c5).ownBlock) (w1.alloc (.cells #[.slice a8 g.length c8] 54)) [.slice a8 g.length c8] g):=U (xh mE (jT (fq HG.o (Bl.alloc (aB w1.heap.size w1) _))) (λb hbk=>⟨trivial,λe=>by
    have h1:=(HG.o.lt b hbk).1;have h2:=(HO.o.lt b e.symm).2
    omega⟩))
   obtain⟨cs,hr,hap⟩:=K7 ja;rw[hm.o]at hr hap ⊢;have HR:=U hr;have vB:=U hap;have hm6:m≤64:=ae;clear hr hap ja;go_wp2_with (at_builtin;go_loud (refine iE (HR.o) ⟨w1.heap.size,0,none⟩ 1 1 [.slice a8 g.length c8] hi hz0 hz1 hz2 ?_);intro v' w4 hown' hgrow bY)
   have fu:=U (vB.o w4 v' g [.slice a8 g.length c8] (by have:=BP.o;rw[hm.o]at this;exact this) hown' hgrow bY);have hb4:BL w w4:=gJ (Bl.alloc hb2 _) hgrow bC (λj hj=>(bL.o.lt j (by rw[hm.o];exact hj)).1);clear hown' hgrow bY;go_roundw
   case rel=>exact⟨m+1,M++[g],ae,aY,U (HT.o.snoc HTX.o),fu,hb4⟩
   case measure=>exact aFF
  ·have hkk:m=n:=ae;rw[hm.o];go_wp2;go_ret2;exact⟨⟨_,_,rfl⟩,hb,_,M,by rw[hnn.o,←hkk];exact HT.o,rfl,by have:=HO.o.list;rw[hm.o]at this;exact this⟩
def ZM(x:aJ)(l:List (List Sp)):Prop:=dA x=0∧Fits x∧iK x∧Ki x x.sheets.length l
def ap7(x:aJ):Prop:=¬(dA x=0∧Fits x∧iK x)
theorem aBn(x:aJ)(cx:List Value)(w:World)(hx:dM w x cx)(hn:1≤x.sheets.length):
  Calls prog 23 #[.agg cx.toArray] w (Uk (ZM x) (ap7 x) w):=by
 have bZ:=U hx;have bE:=U hx.len;have HN:=U hn;clear hx hn;go_in;go_wp2_with (with_reducible_and_instances refine dI 4 ?_)
 have bg:=U (Bx.new (W:=w) (t:=30) (vs:=cx) rfl);have HB0:=U (Bl.alloc (aB w.heap.size w) (.cells cx.toArray 30));generalize w.alloc (.cells cx.toArray 30)=w0 at *;refine⟨?_⟩;have HC:=U (Cx.whole bg.o);go_wp2_with (refine dh bK rfl HC.o bE.o ?_)
 refine(anL x cx true 29 54 #[] #[] (λ_ _ e w'=>∃v l,Ki x x.sheets.length l∧e=.returned (.tuple #[v,.int .i64 0])∧aC Shape.span.list w' v l) w0 (bZ.o.below HB0.o) (λ_=>HN.o) (fo func29 aF rfl) (λW hb=>(adT W).mono λe w' ⟨h1,h2⟩=>⟨h1,by subst h2;exact aB _ _⟩) (fo func54 aF rfl) (λh0 _ hfit _ W B hbW hR=>by simpa using aBo x B W h0 hfit HN.o hR)).mono ?_;rintro e w1 ⟨hb1,hP⟩;have HB1:=U (Bl.call HB0.o hb1);clear hb1;rcases hP with⟨h,rfl⟩|⟨h,h2,rfl⟩|⟨h,_,h2,rfl⟩|⟨h,_,h2,h3,rfl⟩|⟨h,_,h2,h3,W,B,_,_,v,l,hl,rfl,hv⟩
 ·have HF:=U h;clear h;obtain⟨z,hz⟩:=nm (dA x);rw[hz.o];go_wp2;go_ret2;exact⟨HB1.o,.inl ⟨z,WA,λh=>HF.o h.1,rfl⟩⟩
 ·cases h2
 ·have HF:=U h2;clear h h2;go_wp2;go_ret2;exact⟨HB1.o,.inl ⟨2,ae,λh=>HF.o h.2.1,rfl⟩⟩
 ·have HF:=U h3;clear h h2 h3;go_wp2;go_ret2;exact⟨HB1.o,.inl ⟨71,ae,λh=>HF.o h.2.2,rfl⟩⟩
 ·have HL:=U (show ZM x l from⟨h,h2,h3,hl⟩);have HV:=U hv;clear h h2 h3 hl hv;go_wp2;go_ret2;exact⟨HB1.o,.inr ⟨v,l,HL.o,rfl,HV.o⟩⟩
end
section
attribute [local go_sem] Qv
attribute [local go_sem] Oper.semAt_some
def U4(y:Value×aT):Array Value:=#[.agg #[y.1]]
def K3(y:Value×aT×Int):Value×aT:=(y.1,y.2.1)
structure PR(x:aJ)(f:aQ)(i:Nat)(B Br Bi Bt:Nat)(aw:Option Addr)(cw:Nat)(L:List Sp)(w:World):Prop where
 br:Bx Br [.pointer (some ⟨B,0,none⟩)] w
 bi:Bx Bi [i] w
 bt:Bx Bt [.slice aw L.length cw] w
 at_:x.sheets[i]?=some f
 reg:RegionAt x B w
 lim:Aq w aw cw L
theorem PR.below{Br Bi Bt:Nat}{aw:Option Addr}{cw:Nat}{w:World}(h:PR x f i B Br Bi Bt aw cw L w)(hb:BL w w'):PR x f i B Br Bi Bt aw cw L w':=
 ⟨h.br.next hb,h.bi.next hb,h.bt.next hb,h.at_,h.reg.below hb,h.lim.below hb⟩
theorem awD(x:aJ)(f:aQ)(i B Br Bi Bt:Nat)(aw:Option Addr)(cw:Nat)(L:List Sp)(n:Nat)(w:World)(hI:PR x f i B Br Bi Bt aw cw L w)(hx:fM x)(hf:qG x f)(cO:gG x f=false)(hl:(aL x f).length≤1000000)(tm:Nat)(C8:x.term=(tm:Int))(htk:(tm:Int)≤x.ticks):
  su prog n 148 #[.pointer (some ⟨Br,0,none⟩),.pointer (some ⟨Bi,0,none⟩),.pointer (some ⟨Bt,0,none⟩)] U4 (λk=>k<w.heap.size) (λys=>ys.map (·.2)=(bT x f f.station tm L false).map (·.1)) 1000000000 w (λy W=>aC Shape.nod.list W y.1 y.2):=by
 intro l J Jx W hW hJ hJx hY hj0;have HI:=U (hI.below hW);have KC:=hW.size;have Cm:=U (λq (hq:q<w.heap.size)=>hW.block q hq);have HJ:=U hJ;have yN:=U hJx;have HY:=U hY;have hj0:=U hj0;clear hJ hJx hY;have hn1:1≤x.sheets.length:=by have:=(gN.1 hI.at_).1;omega
 have hin:i<x.sheets.length:=(gN.1 hI.at_).1;obtain⟨q,o,c,vs,cx,jh,hWC,hvs,hsh⟩:=hI.reg.regW hn1;obtain⟨C,aaM,K,cs,vh,vt,aiK,hK,-,-⟩:=hsh i f hI.at_;have uE:=(hW.cell (fe _ _ aaM)).trans aaM;have hC2:=aiK.next hW;have M7:=jh.bx.next hW;have wJ:=U hI.lim;have HK:=U hK;have VL:=hx.sheets;have HX:=U (And.intro hx (And.intro hf cO));have c9:=(M7.cell 9).trans jh.s9;have c3:=M7.cell 3;rw[hvs 3 aW]at c3;obtain⟨va,vs',vr,jR,-⟩:=hWC;rw[jR]at c3;simp only[dm,aK,bB]at c3;rw[C8]at c3;have cC:=hC2.cell 0;simp only[WG,aK]at cC;have lB:=M7.lt;have lC:=hC2.lt;have lq:=fe _ _ uE;clear hI jh hsh hC2 aiK aaM M7 hK hvs jR vs' va vr cx hx hf cO;have b0:=HI.o.br.cell 0;have b1:=HI.o.bi.cell 0;have b2:=HI.o.bt.cell 0;have lb0:=HI.o.br.lt;have uL:=HI.o.bi.lt;have lV:=HI.o.bt.lt;simp only[aK]at b0 b1 b2;have i1:(0:Int)≤(i:Int):=ae;have i2:(i:Int)<x.sheets.length:=ae;obtain⟨ns,hns⟩:∃m,Hid (x.sheets.length=m):=⟨_,U rfl⟩;rw[hns.o]at c9 i2 hin VL;obtain⟨lL,hlL⟩:∃m,Hid (L.length=m):=⟨_,U rfl⟩;rw[hlL.o]at b2;refine zb func148 rfl trivial ?_ rfl;simp only[ntmps148,jb,dS,fU,Nat.reduceAdd,Nat.reduceSub,kv,kw,kC,kz,fE,gB];have hfn:∀k,Fence.wide.fn k:=λ_=>trivial
 have hdp:¬(Fence.wide.depth.isSome=true):=kL;gi_wp2_with fail;refine Ou ?_;refine rU [17] [17] 0 [] [(0,[0,1,2,3,4,5,6,7,8,9,10,11,12,13,14,15,16],17)] [] [] [(0,[_,_,_,_,_,_,_,_,_,_,_,_,_,_,_,_,_],17,_)] [] ?_;refine aH (iP ?_)
 (repeat(go_big_quiet_step (fail)));refine aH ?_
 intro nq;go_wp2_with fail;have XY0:=Bx.new (W:=W) (t:=161) (vs:=[.func (.yield l) #[] #[]]) rfl;have hbq:BL W ((W.alloc (.cells #[.func (.yield l) #[] #[]] 161)).drewN nq):=Bl.drewN (Bl.alloc (aB _ _) _) nq;have XY3:=XY0.next (Bl.drewN (aB _ (W.alloc (.cells #[.func (.yield l) #[] #[]] 161))) nq);have h3s:((W.alloc (.cells #[.func (.yield l) #[] #[]] 161)).drewN nq).heap.size=W.heap.size+1:=aj;generalize (W.alloc (.cells #[.func (.yield l) #[] #[]] 161)).drewN nq=W3 at *;have h3l:=ME h3s;have h3g:=ME h3s.symm;clear XY0 h3s;rw[←hlL.o];refine(U2 K tm aw L.length cw false W3).mono ?_;rintro e w2 ⟨rfl,kW,hBa,hBw,uD,hb2⟩;have HB2:=U (Bl.call hbq hb2);have hn2:W.heap.size+5≤w2.heap.size:=aa9;have qC:=U (λn=>adK x f f.station K cs tm aw cw L false W3.heap.size (W3.heap.size+3) (W3.heap.size+2) (W3.heap.size+1) n w w2 HK.o HX.o.1 HX.o.2.1 HX.o.2.2 hl (fK KC HB2.o.size) (λq hq=>(HB2.o.block q ae).trans (Cm.o q hq)) kW hBa hBw uD wJ.o htk);have Zd:=U (XY3.next hb2)
 have HJ2:=U (HJ.o _ (ry W.heap.size w2.heap.size (λ_=>False) w2) _ _ _ hj0.o (aA.of_below HB2.o) (λk hk=>by
  obtain⟨h|h,h2⟩:=hk
  ·exact .inr ⟨h.1,h2⟩
  ·exact h.elim))
 clear kW hBa hBw uD hb2 hbq XY3 b0 b1 b2 c9 c3 cC;go_wp2;refine bS _ rfl (jl ?_);go_wp2_with fail;simp only[iI,I8];gi_wp2_with fail;refine(λ(h:∃A:Nat→(Value×aT×Int)→Act,_)=>h.elim λ_ h=>h) ?_;apply Exists.intro
 refine E8 (gf:=113) (lb:=#[.pointer (some ⟨W3.heap.size,0,none⟩),.pointer (some ⟨W3.heap.size+3,0,none⟩),.pointer (some ⟨W3.heap.size+2,0,none⟩),.pointer (some ⟨W3.heap.size+1,0,none⟩)]) rfl (fo func113 aF rfl) (qC.o _) (λq hq=>ae) (λ_=>rfl)
  (λown pre W'=>J (ry W.heap.size w2.heap.size own W') (pre.map K3) W'∧Bx W.heap.size [.func (.yield l) #[] #[]] W') ?hI (λcd own pre W'=>cd=.ret∧Jx (ry W.heap.size w2.heap.size own W') (pre.map K3) W') ?hIx ?h0
  (λown pre y a1 W'=>∃bt:Nat,(Bx bt [y.1] W'∧w2.heap.size+2≤bt)∧Shape.nod.list.list.reads (λq=>q≠w2.heap.size+1) W' [y.1] y.2.1∧(pre.length<1000000000∧∃ys:List (Value×aT×Int),ys.map (·.2)=bT x f f.station tm L false∧(pre++[y]) <+: ys)∧(J (ry W.heap.size w2.heap.size own W') (pre.map K3) W'∧Bx W.heap.size [.func (.yield l) #[] #[]] W')∧a1=?w bt y) ?hAx ?assign ?body ?done ?stop
 case hI=>
  intro own own' s A B hi ho hs ht hw;exact⟨sw HJ.o hi.1 ae ht hw,hi.2.turns ht (λk=>ays)⟩
 case hIx=>
  intro cd own own' s A B hi ho hs ht hw;exact⟨hi.1,sw yN.o hi.2 ae ht hw⟩
 case h0=>exact⟨HJ2.o,Zd.o⟩
 case hAx=>
  rintro own pre y a1 A B ⟨bt,⟨h1,h2⟩,h3,h4,h5,h6⟩ ho ht hlt hsz;exact⟨bt,⟨h1.turns ht (λe=>ae),h2⟩,Shape.keep _ h3 (ht.same λb hb _=>hb),h4,⟨sw HJ.o h5.1 ae (ht.mono λk h=>.inr (.inr h)) (λk h=>.inl h),h5.2.turns ht (λe=>ae)⟩,h6⟩
 case assign=>
  rintro ll own pre y W' hi' ho hs hlt hpre hfa hnc;have HP:=U (And.intro hlt hpre);clear hpre;have OY:=U hi';clear hi';have HT:=U (Shape.mono _ (Sz hfa) (A':=λq=>q≠w2.heap.size+1) λb _ ⟨o,u,h⟩ e=>WW);obtain⟨av,cv,e1,_,_⟩:=(kK HT.o).shape;have jL:=U e1;clear hfa hnc;unfold CU;rw[e1];clear e1;gi_wp2;rw[←jL.o];have hbl:BL W' (W'.alloc (.cells #[y.1] 139)):=Bl.alloc (aB _ _) _;refine⟨fG.of_below hbl λk hk=>?_,W'.heap.size,⟨Bx.new rfl,hs⟩,Shape.below HT.o hbl,HP.o,⟨sw HJ.o OY.o.1 ae (aA.of_below hbl) (λk h=>.inl h),OY.o.2.next hbl⟩,?_⟩
  ·rcases hk with h|h
   ·omega
   ·have:=ho k;rcases h with h|h
    ·exact(this h).2
    ·omega
  ·(try unfold BL at *);generalize W'.heap.size=bt at *
   rfl
 case body=>
  rintro ll own pre y a1 W' ⟨bt,⟨h1,h2⟩,h3,⟨h4,ys,h5,h6⟩,⟨h7,h8⟩,rfl⟩ ho hs hlt hpre;clear hpre;have q1:=h1.cell 0;have q4:=h8.cell 0;have q5:=h1.lt;have q7:=h8.lt;simp only[aK]at q1 q4;obtain⟨av,cv,e1,_,_⟩:=(kK h3).shape;have h6':=h6.map K3;rw[iT]at h6';obtain⟨fn,tmps,assign,body,hy,hR⟩:=HY.o _ _ (K3 y) W' h7 (by rw[fC];exact h4) ⟨ys.map K3,by rw[←h5,Au,Au];rfl,h6'⟩ (kK h3);dsimp only[U4,K3]at hy;have bI:=U h8;rw[e1]at hy q1;clear h1 h8 h3 e1 h6 h6';gi_wp2_with fail;refine(acI hR).mono ?_
  have hkk:∀k,(k<w.heap.size∨k=W3.heap.size∨k=W3.heap.size+3∨k=W3.heap.size+2∨k=W3.heap.size+1)∨own k∨k=w2.heap.size∨k=w2.heap.size+1→k<w.heap.size∨ry W.heap.size w2.heap.size own W' k:=by
   rintro k ((h|h|h|h|h)|h|h|h)
   ·exact .inl h
   ·exact .inr ⟨.inl ⟨ae,ae⟩,ae⟩
   ·exact .inr ⟨.inl ⟨ae,ae⟩,ae⟩
   ·exact .inr ⟨.inl ⟨ae,ae⟩,ae⟩
   ·exact .inr ⟨.inl ⟨ae,ae⟩,ae⟩
   ·exact .inr ⟨.inr h,(ho k h).2⟩
   ·exact .inr ⟨.inl ⟨ae,ae⟩,ae⟩
   ·exact .inr ⟨.inl ⟨ae,ae⟩,ae⟩
  have HKK:=U hkk;clear hkk;rintro e W5 (⟨rfl,hJ3,hs3,hk3⟩|⟨rfl,hJ3,hs3,hk3⟩)
  ·have DZ:=U (And.intro (And.intro hs3 (λk hk=>hk3 k (HKK.o k hk))) (And.intro hJ3 hk3));clear hJ3 hk3 hR hy;gi_wp2_with fail;obtain⟨⟨g1,g2⟩,g3,g4⟩:=DZ.o;exact⟨⟨g1,g2⟩,ayX,bI.o.block (g4 _ (.inr ⟨.inl ⟨ae,ae⟩,ae⟩)) g1⟩
  ·have DZ:=U (And.intro (And.intro hs3 (λk hk=>hk3 k (HKK.o k hk))) (And.intro hJ3 hk3));clear hJ3 hk3 hR hy;gi_wp2_with fail;obtain⟨⟨g1,g2⟩,g3,g4⟩:=DZ.o;exact⟨⟨g1,g2⟩,rfl,ayY⟩
 case done=>
  rintro own ls W' hls ⟨hj,hx⟩ ho hs hK;refine⟨aj,.inl ⟨_,_,rfl,sO hK,?_⟩⟩;exact⟨_,Jf rfl _ _ _,⟨_,rfl⟩,_,_,.inl ⟨by show List.map _ (List.map _ _)=_;rw[Au,←hls,Au];rfl,sw HJ.o hj ae ((aA.putObj _ _ _).mono λk h=>.inr (.inl h)) (λk h=>.inl h)⟩⟩
 case stop=>
  rintro cd own xs W' ⟨rfl,hj⟩ ho hs hK;have O0:=U hj;clear hj;gi_wp2_with fail;refine⟨aj,.inl ⟨_,_,rfl,sO hK,?_⟩⟩;exact⟨_,Jf rfl _ _ _,⟨_,rfl⟩,_,_,.inr (sw yN.o O0.o ae ((aA.putObj _ _ _).mono λk h=>.inr (.inl h)) (λk h=>.inl h))⟩
theorem aBR(x:aJ)(f:aQ)(i B:Nat)(w:World)(hx:fM x)(hfit:Fits x)(hf:x.sheets[i]?=some f)(hR:RegionAt x B w):
  Calls prog 91 #[.pointer (some ⟨B,0,none⟩),i] w λe w'=>∃(Br Bi Bt:Nat) (aw:Option Addr) (cw:Nat) (L:List Sp),e=.returned (.func (.func 148) #[] #[.pointer (some ⟨Br,0,none⟩),.pointer (some ⟨Bi,0,none⟩),.pointer (some ⟨Bt,0,none⟩)])∧qH x i L∧PR x f i B Br Bi Bt aw cw L w'∧BL w w':=by
 have hin:i<x.sheets.length:=(gN.1 hf).1;obtain⟨q,o,c,vs,cx,jh,_⟩:=hR.regW ae;have HRW:=U jh;have jM:=U (NV hx hfit ae);have Mh:=U hR;have HX:=U (And.intro hx (And.intro hfit hf));clear hx hfit hf hR jh;go_in;go_wp2_with (with_reducible_and_instances refine dI 6 ?_)
 have bg:=U ((Bx.new (W:=w) (t:=96) (vs:=[.pointer (some ⟨B,0,none⟩)]) rfl).alloc (.cells #[i] 3));have bP:=U (Bx.new (W:=w.alloc (.cells #[.pointer (some ⟨B,0,none⟩)] 96)) (B:=w.heap.size+1) (t:=3) (vs:=[.int .i64 i]) aj);have HB0:=U (Bl.alloc (Bl.alloc (aB w.heap.size w) (.cells #[.pointer (some ⟨B,0,none⟩)] 96)) (.cells #[i] 3));generalize (w.alloc (.cells #[.pointer (some ⟨B,0,none⟩)] 96)).alloc (.cells #[i] 3)=w0 at *;refine⟨?_⟩;have c2:=bg.o.cell 0;have l2:=bg.o.lt;have c3:=bP.o.cell 0;have l3:=bP.o.lt;simp only[aK]at c2 c3;go_wp2_with fail;refine(acJ B q o x.sheets.length c i vs (zq x) (zN x) (mQ x) w0 (HRW.o.below HB0.o) jM.o hin).mono ?_;rintro e w1 ⟨v,L,rfl,hO,hT,hb1⟩;obtain⟨a1,c1,rfl⟩:=bv hO;have HL:=U (jT hO);have HT:=U (show qH x i L from hT);have HB1:=U (Bl.call HB0.o hb1);have qE:=U (bg.o.next hb1);have HY3:=U (bP.o.next hb1);clear hO hT hb1 c2 c3 l2 l3;go_wp2;go_ret;have hal:=Bl.alloc (aB w1.heap.size w1) (.cells #[.slice a1 L.length c1] 54);exact⟨_,_,_,a1,c1,L,rfl,HT.o,⟨qE.o.next hal,HY3.o.next hal,Bx.new rfl,HX.o.2.2,(Mh.o.below HB1.o).below hal,(anj HX.o.1 HX.o.2.1 HX.o.2.2 HT.o HL.o).below hal⟩,Bl.alloc HB1.o _⟩
def uh(pre:List (Value×aT))(P:aT→Bool):Bool:=(pre.map (·.2)).any P
theorem ag6(pre:List (Value×aT))(y:Value×aT)(P:aT→Bool):uh (pre++[y]) P=(uh pre P || P y.2):=by simp[uh]
def MU(Ts:List aT)(P1 P2:aT→Bool):Int:=if Ts.any P1=false then 0 else if Ts.any P2 then 1 else 2
theorem UY{B7 B8:Nat}{a b p q:Bool}(h7:Bx B7 [.bool a] W)(h8:Bx B8 [.bool b] W)(hn:B7≠B8):
  Bx B7 [.bool p] ((W.setCell ⟨B7,0,none⟩ (.bool p)).setCell ⟨B8,0,none⟩ (.bool q))∧Bx B8 [.bool q] ((W.setCell ⟨B7,0,none⟩ (.bool p)).setCell ⟨B8,0,none⟩ (.bool q)):=
 ⟨(h7.set 0 (.bool p) aj).far (p:=⟨B8,0,none⟩) (by show ¬B8=B7;omega) _,(h8.far (p:=⟨B7,0,none⟩) (by show ¬B7=B8;omega) _).set 0 (.bool q) aj⟩
theorem aBw(gf g1 g2:Nat)(lbf uL lV:Array Value)(Ts:List aT)(P1 P2:aT→Bool)(w:World)(hef:Enters prog gf)(he1:Enters prog g1)(he2:Enters prog g2)
  (hseq:∀n,su prog n gf lbf U4 (λk=>k<w.heap.size) (λys=>ys.map (·.2)=Ts) 1000000000 w (λy W=>aC Shape.nod.list W y.1 y.2))
  (h1:∀W a n c T,BL w W→T∈Ts→aC Shape.nod.list W (.slice a n c) T→Calls prog g1 (#[.agg #[.slice a n c]]++uL) W (oK (P1 T) W))
  (h2:∀W a n c T,BL w W→T∈Ts→aC Shape.nod.list W (.slice a n c) T→Calls prog g2 (#[.agg #[.slice a n c]]++lV) W (oK (P2 T) W)) :
  Calls prog 90 #[.func (.func gf) #[] lbf,.func (.func g1) #[] uL,.func (.func g2) #[] lV] w (Eg (MU Ts P1 P2) w):=by
 have qC:=U hseq;have H1:=U h1;have H2:=U h2;have auv:∀(args:Array Value) (w:World),(callFunc gf args).run prog w=.ok (.enter gf args) w:=hef;have ajK:∀(args:Array Value) (w:World),(callFunc g1 args).run prog w=.ok (.enter g1 args) w:=he1;have VH:∀(args:Array Value) (w:World),(callFunc g2 args).run prog w=.ok (.enter g2 args) w:=he2;clear hseq h1 h2 he1 he2;refine(xW (n:=3)).1 ?_;refine zb func90 rfl trivial ?_ rfl;simp only[ntmps90,jb,dS,fU,Nat.reduceAdd,Nat.reduceSub,kv,kw,kC,kz,fE,gB];have hfn:∀k,Fence.wide.fn k:=λ_=>trivial;have hdp:¬(Fence.wide.depth.isSome=true):=kL;gi_wp2_with fail;have X4:=U ((((Bx.new (W:=w) (t:=161) (vs:=[.func (.func g1) #[] uL]) rfl).alloc (.cells #[.func (.func g2) #[] lV] 161)).alloc (.cells #[.bool false] 4)).alloc (.cells #[.bool false] 4));have X5:=U (((Bx.new (W:=w.alloc (.cells #[.func (.func g1) #[] uL] 161)) (B:=w.heap.size+1) (t:=161) (vs:=[.func (.func g2) #[] lV]) aj).alloc (.cells #[.bool false] 4)).alloc (.cells #[.bool false] 4))
 have X7:=U ((Bx.new (W:=(w.alloc (.cells #[.func (.func g1) #[] uL] 161)).alloc (.cells #[.func (.func g2) #[] lV] 161)) (B:=w.heap.size+1+1) (t:=4) (vs:=[.bool false]) aj).alloc (.cells #[.bool false] 4));have X8:=U (Bx.new (W:=((w.alloc (.cells #[.func (.func g1) #[] uL] 161)).alloc (.cells #[.func (.func g2) #[] lV] 161)).alloc (.cells #[.bool false] 4)) (B:=w.heap.size+1+1+1) (t:=4) (vs:=[.bool false]) aj);have HB0:=U (Bl.alloc (Bl.alloc (Bl.alloc (Bl.alloc (aB w.heap.size w) (.cells #[.func (.func g1) #[] uL] 161)) (.cells #[.func (.func g2) #[] lV] 161)) (.cells #[.bool false] 4)) (.cells #[.bool false] 4));generalize (((w.alloc (.cells #[.func (.func g1) #[] uL] 161)).alloc (.cells #[.func (.func g2) #[] lV] 161)).alloc (.cells #[.bool false] 4)).alloc (.cells #[.bool false] 4)=w2 at *;obtain⟨B7,hB7⟩:∃b,Hid (b=w.heap.size+1+1):=⟨_,U rfl⟩;obtain⟨B8,hB8⟩:∃b,Hid (b=w.heap.size+1+1+1):=⟨_,U rfl⟩;rw[←hB8.o]at X8 ⊢;rw[←hB7.o]at X7 ⊢;have l8:=X8.o.lt;have g7:=hB7.o;have g8:=hB8.o;have e7:w.heap.size+2≤B7∧B7≤w.heap.size+2:=ae;have e8:w.heap.size+3≤B8∧B8≤w.heap.size+3:=ae;clear g7 g8;have xM:=U (λn=>(qC.o n).later HB0.o)
 refine(λ(h:∃A:Nat→(Value×aT)→Act,_)=>h.elim λ_ h=>h) ?_;apply Exists.intro
 refine E8 (gf:=gf) (lb:=lbf) rfl auv (xM.o _) (λq hq=>by have:=hq;omega) (λ_=>rfl)
  (λown pre W=>(Bx w.heap.size [.func (.func g1) #[] uL] W∧Bx (w.heap.size+1) [.func (.func g2) #[] lV] W)∧(Bx B7 [.bool (uh pre P1)] W∧Bx B8 [.bool (uh pre P2)] W)∧BL w W) ?hI (λ_ _ _ _=>False) ?hIx ?h0
  (λown pre y a1 W=>∃bt:Nat,(Bx bt [y.1] W∧w2.heap.size+2≤bt)∧Shape.nod.list.list.reads (λq=>q≠w2.heap.size+1) W [y.1] y.2∧y.2∈Ts∧((Bx w.heap.size [.func (.func g1) #[] uL] W∧Bx (w.heap.size+1) [.func (.func g2) #[] lV] W)∧(Bx B7 [.bool (uh pre P1)] W∧Bx B8 [.bool (uh pre P2)] W)∧BL w W)∧a1=?w bt y) ?hAx ?assign ?body ?done ?stop
 case hI=>
  rintro own own' pre A B ⟨⟨a4,a5⟩,⟨a7,a8⟩,hb⟩ ho hs ht hw
  have no:∀q,q<w2.heap.size→¬(own q∨q=w2.heap.size∨q=w2.heap.size+1):=λq hq h=>by
   rcases h with h|h|h
   ·exact aFr
   ·omega
   ·omega
  exact⟨⟨a4.turns ht (no _ ae),a5.turns ht (no _ ae)⟩,⟨a7.turns ht (no _ ae),a8.turns ht (no _ ae)⟩,aA.below hb ht ae (λq h=>by
   rcases h with h|h|h
   ·exact aFr
   ·omega
   ·omega)⟩
 case hIx=>exact aFs
 case h0=>exact⟨⟨X4.o,X5.o⟩,⟨X7.o,X8.o⟩,HB0.o⟩
 case hAx=>
  rintro own pre y a1 A B ⟨bt,⟨h1,h2⟩,h4,h5,⟨⟨a4,a5⟩,⟨a7,a8⟩,hb⟩,h10⟩ ho ht hlt hsz;exact⟨bt,⟨h1.turns ht (λe=>ae),h2⟩,Shape.keep _ h4 (ht.same λb hb _=>hb),h5,⟨⟨a4.turns ht (λe=>ae),a5.turns ht (λe=>ae)⟩,⟨a7.turns ht (λe=>ae),a8.turns ht (λe=>ae)⟩,aA.below hb ht ae (λq h=>ae)⟩,h10⟩
 case assign=>
  rintro ll own pre y W hi' ho hs hlt ⟨ys,hys,hpre⟩ hfa hnc;have HI:=U hi';clear hi';have HM:=U (by rw[←hys];exact dz.2 ⟨y,hpre.subset aj,rfl⟩:y.2∈Ts);have HT:=U (Shape.mono _ (Sz hfa) (A':=λq=>q≠w2.heap.size+1) λb _ ⟨o,u,h⟩ e=>WW);obtain⟨av,cv,e1,_,_⟩:=(kK HT.o).shape;have jL:=U e1;clear hpre hys hfa hnc;unfold U4;rw[e1];clear e1;gi_wp2;rw[←jL.o];have hbl:BL W (W.alloc (.cells #[y.1] 139)):=Bl.alloc (aB _ _) _;obtain⟨⟨a4,a5⟩,⟨a7,a8⟩,hb⟩:=HI.o;refine⟨fG.of_below hbl λq hq=>?_,W.heap.size,⟨Bx.new rfl,hs⟩,Shape.below HT.o hbl,HM.o,⟨⟨a4.next hbl,a5.next hbl⟩,⟨a7.next hbl,a8.next hbl⟩,Bl.call hb hbl⟩,?_⟩
  ·rcases hq with h|h
   ·omega
   ·rcases h with h|h
    ·exact(ho q h).2
    ·omega
  ·(try unfold BL at *);generalize W.heap.size=bt at *
   rfl
 case body=>
  rintro ll own pre y a1 W ⟨bt,⟨h1,h2⟩,h4,h5,⟨⟨a4,a5⟩,⟨a7,a8⟩,hb⟩,rfl⟩ ho hs hlt _;obtain⟨yv,yT⟩:=y;have HT:=U (show aC Shape.nod.list W yv yT from kK h4);obtain⟨av,cv,rfl,_,_⟩:=HT.o.shape;have zZ:=U (λW' (hb':BL W W')=>H1.o W' av yT.length cv yT (Bl.call hb hb') h5 (HT.o.below hb'));have tF:=U (λW' (hb':BL W W')=>H2.o W' av yT.length cv yT (Bl.call hb hb') h5 (HT.o.below hb'));have Mg:Hid (uh (pre++[((.slice av yT.length cv,yT):Value×aT)]) P1=(uh pre P1 || P1 yT)):=U (ag6 _ _ _);have Hg:Hid (uh (pre++[((.slice av yT.length cv,yT):Value×aT)]) P2=(uh pre P2 || P2 yT)):=U (ag6 _ _ _);have HB:=U hb;have wI:=U a4;have BI:=U a5;have zV:=U a7;have vw:=U a8;have lH:=U h1;have HOW:=U ho;have r4:=a4.cell 0;have r5:=a5.cell 0;have r7:=a7.cell 0;have r8:=a8.cell 0;have rb:=h1.cell 0;have m4:=a4.lt;have m5:=a5.lt;have m7:=a7.lt;have m8:=a8.lt;have mb:=h1.lt;simp only[aK]at r4 r5 r7 r8 rb;clear h1 h4 h5 a4 a5 a7 a8 hb ho;obtain⟨p1,hp1⟩:∃p,Hid (P1 yT=p):=⟨_,U rfl⟩;obtain⟨p2,hp2⟩:∃p,Hid (P2 yT=p):=⟨_,U rfl⟩;rw[hp1.o]at zZ Mg;rw[hp2.o]at tF Hg;obtain⟨s1,hs1⟩:∃p,Hid (uh pre P1=p):=⟨_,U rfl⟩;obtain⟨s2,hs2⟩:∃p,Hid (uh pre P2=p):=⟨_,U rfl⟩;rw[hs1.o]at r7 zV Mg
  rw[hs2.o]at r8 vw Hg;cases s1<;>cases s2
  case false.false=>
   gi_wp2;refine LK [12,13] [4,10,12,13] 1 [] (.one 2 [0,1,2,3,6] 4 (.one 0 [5,7,8,9] 10 (.pur [11] (.one 0 [] 12 (.one 0 [] 13 (.fin [])))))) [] (.one 2 [_,_,_,_,_] 4 _ (.one 0 [_,_,_,_] 10 _ (.pur [_] (.one 0 [] 12 _ (.one 0 [] 13 _ (.fin [])))))) ?_;refine aH (uV ?_)
   (repeat(go_big_quiet_step (fail)));refine aH ?_
   intro w7 bV;go_wp2_with fail;refine(zZ.o w7 bV).mono ?_;rintro e w8 ⟨rfl,bq⟩;have cZ:=U (Bl.call bV bq);clear bV bq;go_wp2_with fail;have t5:=BI.o.next cZ.o;have t8:=vw.o.next cZ.o;have tb:=lH.o.next cZ.o;have u5:=t5.cell 0;have u8:=t8.cell 0;have ub:=tb.cell 0;have v5:=t5.lt;have v8:=t8.lt;have vb:=tb.lt;simp only[aK]at u5 u8 ub;clear t5 t8 tb;refine dZ cZ.o (uV ?_)
   (repeat(go_big_quiet_step (fail)));refine aH ?_
   intro w9a wZ;go_wp2_with fail;have hbn:=Bl.call cZ.o wZ;refine(tF.o _ hbn).mono ?_;rintro e w9 ⟨rfl,dX⟩;have gm:=U (Bl.call hbn dX);have JG:=U (Bl.call wZ dX);clear hbn dX wZ;go_wp2_with fail;have n78:¬B7=B8:=ae;have n87:¬B8=B7:=ae;have t7:=zV.o.next gm.o;have t8:=vw.o.next gm.o;have u7:=t7.lt;have f7:=t7.free 0;have x8:=t8.lt;have f8:=t8.free 0;have y7:=t7.cell 0;have y8:=t8.cell 0;simp only[aK]at y7 y8;clear t7 t8;refine dZ JG.o (LG ?_)
   (repeat(go_big_quiet_step (fail)));refine aH (wG ?_)
   go_wp2;refine bS _ rfl (wG ?_);go_wp2;refine bS _ rfl (LF ?_);first|refine uO ?_|simp only[iI]
   gi_wp2_with fail;have hbd:=gm.o;obtain⟨k7,k8⟩:=UY (p:=p1) (q:=p2) (zV.o.next hbd) (vw.o.next hbd) n78;have ht:aA (λq=>q=B7∨q=B8) w9 ((w9.setCell ⟨B7,0,none⟩ (.bool p1)).setCell ⟨B8,0,none⟩ (.bool p2)):=(aA.setCell _ _ ⟨B7,0,none⟩ _ (.inl rfl)).trans (aA.setCell _ _ ⟨B8,0,none⟩ _ (.inr rfl));have hsz:=hbd.size;refine⟨⟨fK hsz ht.size,λq hq=>?_⟩,⟨(wI.o.next hbd).turns ht ae,(BI.o.next hbd).turns ht ae⟩,⟨?_,?_⟩,aA.below (Bl.call HB.o hbd) ht ae (λq h=>ae)⟩
   ·have hlq:q<W.heap.size∧¬(q=B7∨q=B8):=by
     have:=HOW.o q;rcases hq with h|h|h|h
     ·omega
     ·have:=this h;omega
     ·omega
     ·omega
    exact(ht.block q ae hlq.2).trans (hbd.block q hlq.1)
   ·rw[Mg.o];exact k7
   ·rw[Hg.o];exact k8
  case false.true=>
   gi_wp2;refine LK [12,13] [4,10,12,13] 1 [] (.one 2 [0,1,2,3,6] 4 (.one 0 [5,7,8,9] 10 (.pur [11] (.one 0 [] 12 (.one 0 [] 13 (.fin [])))))) [] (.one 2 [_,_,_,_,_] 4 _ (.one 0 [_,_,_,_] 10 _ (.pur [_] (.one 0 [] 12 _ (.one 0 [] 13 _ (.fin [])))))) ?_;refine aH (uV ?_)
   (repeat(go_big_quiet_step (fail)));refine aH ?_
   intro w7 bV;go_wp2_with fail;refine(zZ.o w7 bV).mono ?_;rintro e w8 ⟨rfl,bq⟩;have cZ:=U (Bl.call bV bq);clear bV bq;go_wp2_with fail;have t5:=BI.o.next cZ.o;have t8:=vw.o.next cZ.o;have tb:=lH.o.next cZ.o;have u5:=t5.cell 0;have u8:=t8.cell 0;have ub:=tb.cell 0;have v5:=t5.lt;have v8:=t8.lt;have vb:=tb.lt;simp only[aK]at u5 u8 ub;clear t5 t8 tb;refine dZ cZ.o (uV ?_)
   (repeat(go_big_quiet_step (fail)));refine aH ?_
   intro w9 wZ;go_wp2_with fail;have gm:=U (Bl.call cZ.o wZ);have JG:=U wZ;clear wZ;have n78:¬B7=B8:=ae;have n87:¬B8=B7:=ae;have t7:=zV.o.next gm.o;have t8:=vw.o.next gm.o;have u7:=t7.lt;have f7:=t7.free 0;have x8:=t8.lt;have f8:=t8.free 0;have y7:=t7.cell 0;have y8:=t8.cell 0;simp only[aK]at y7 y8;clear t7 t8;refine dZ JG.o (LG ?_)
   (repeat(go_big_quiet_step (fail)));refine aH (wG ?_)
   go_wp2;refine bS _ rfl (wG ?_);go_wp2;refine bS _ rfl (LF ?_);first|refine uO ?_|simp only[iI]
   gi_wp2_with fail;have hbd:=gm.o;obtain⟨k7,k8⟩:=UY (p:=p1) (q:=true) (zV.o.next hbd) (vw.o.next hbd) n78;have ht:aA (λq=>q=B7∨q=B8) w9 ((w9.setCell ⟨B7,0,none⟩ (.bool p1)).setCell ⟨B8,0,none⟩ (.bool true)):=(aA.setCell _ _ ⟨B7,0,none⟩ _ (.inl rfl)).trans (aA.setCell _ _ ⟨B8,0,none⟩ _ (.inr rfl));have hsz:=hbd.size;refine⟨⟨fK hsz ht.size,λq hq=>?_⟩,⟨(wI.o.next hbd).turns ht ae,(BI.o.next hbd).turns ht ae⟩,⟨?_,?_⟩,aA.below (Bl.call HB.o hbd) ht ae (λq h=>ae)⟩
   ·have hlq:q<W.heap.size∧¬(q=B7∨q=B8):=by
     have:=HOW.o q;rcases hq with h|h|h|h
     ·omega
     ·have:=this h;omega
     ·omega
     ·omega
    exact(ht.block q ae hlq.2).trans (hbd.block q hlq.1)
   ·rw[Mg.o];exact k7
   ·rw[Hg.o];exact k8
  case true.false=>
   gi_wp2;refine LK [12,13] [4,10,12,13] 1 [] (.one 2 [0,1,2,3,6] 4 (.one 0 [5,7,8,9] 10 (.pur [11] (.one 0 [] 12 (.one 0 [] 13 (.fin [])))))) [] (.one 2 [_,_,_,_,_] 4 _ (.one 0 [_,_,_,_] 10 _ (.pur [_] (.one 0 [] 12 _ (.one 0 [] 13 _ (.fin [])))))) ?_;refine aH (uV ?_)
   (repeat(go_big_quiet_step (fail)));refine aH ?_
   intro w7 bV;go_wp2_with fail;have cZ:=U bV;obtain⟨w8,rfl⟩:∃w8,w8=w7:=⟨_,rfl⟩;clear bV;have t5:=BI.o.next cZ.o;have t8:=vw.o.next cZ.o;have tb:=lH.o.next cZ.o;have u5:=t5.cell 0;have u8:=t8.cell 0;have ub:=tb.cell 0;have v5:=t5.lt;have v8:=t8.lt;have vb:=tb.lt;simp only[aK]at u5 u8 ub;clear t5 t8 tb;refine dZ cZ.o (uV ?_)
   (repeat(go_big_quiet_step (fail)));refine aH ?_
   intro w9a wZ;go_wp2_with fail;have hbn:=Bl.call cZ.o wZ;refine(tF.o _ hbn).mono ?_;rintro e w9 ⟨rfl,dX⟩;have gm:=U (Bl.call hbn dX);have JG:=U (Bl.call wZ dX);clear hbn dX wZ;go_wp2_with fail;have n78:¬B7=B8:=ae;have n87:¬B8=B7:=ae;have t7:=zV.o.next gm.o;have t8:=vw.o.next gm.o;have u7:=t7.lt;have f7:=t7.free 0;have x8:=t8.lt;have f8:=t8.free 0;have y7:=t7.cell 0;have y8:=t8.cell 0;simp only[aK]at y7 y8;clear t7 t8;refine dZ JG.o (LG ?_)
   (repeat(go_big_quiet_step (fail)));refine aH (wG ?_)
   go_wp2;refine bS _ rfl (wG ?_);go_wp2;refine bS _ rfl (LF ?_);first|refine uO ?_|simp only[iI]
   gi_wp2_with fail;have hbd:=gm.o;obtain⟨k7,k8⟩:=UY (p:=true) (q:=p2) (zV.o.next hbd) (vw.o.next hbd) n78;have ht:aA (λq=>q=B7∨q=B8) w9 ((w9.setCell ⟨B7,0,none⟩ (.bool true)).setCell ⟨B8,0,none⟩ (.bool p2)):=(aA.setCell _ _ ⟨B7,0,none⟩ _ (.inl rfl)).trans (aA.setCell _ _ ⟨B8,0,none⟩ _ (.inr rfl));have hsz:=hbd.size;refine⟨⟨fK hsz ht.size,λq hq=>?_⟩,⟨(wI.o.next hbd).turns ht ae,(BI.o.next hbd).turns ht ae⟩,⟨?_,?_⟩,aA.below (Bl.call HB.o hbd) ht ae (λq h=>ae)⟩
   ·have hlq:q<W.heap.size∧¬(q=B7∨q=B8):=by
     have:=HOW.o q;rcases hq with h|h|h|h
     ·omega
     ·have:=this h;omega
     ·omega
     ·omega
    exact(ht.block q ae hlq.2).trans (hbd.block q hlq.1)
   ·rw[Mg.o];exact k7
   ·rw[Hg.o];exact k8
  case true.true=>
   gi_wp2;refine LK [12,13] [4,10,12,13] 1 [] (.one 2 [0,1,2,3,6] 4 (.one 0 [5,7,8,9] 10 (.pur [11] (.one 0 [] 12 (.one 0 [] 13 (.fin [])))))) [] (.one 2 [_,_,_,_,_] 4 _ (.one 0 [_,_,_,_] 10 _ (.pur [_] (.one 0 [] 12 _ (.one 0 [] 13 _ (.fin [])))))) ?_;refine aH (uV ?_)
   (repeat(go_big_quiet_step (fail)));refine aH ?_
   intro w7 bV;go_wp2_with fail;have cZ:=U bV;obtain⟨w8,rfl⟩:∃w8,w8=w7:=⟨_,rfl⟩;clear bV;have t5:=BI.o.next cZ.o;have t8:=vw.o.next cZ.o;have tb:=lH.o.next cZ.o;have u5:=t5.cell 0;have u8:=t8.cell 0;have ub:=tb.cell 0;have v5:=t5.lt;have v8:=t8.lt;have vb:=tb.lt;simp only[aK]at u5 u8 ub;clear t5 t8 tb;refine dZ cZ.o (uV ?_)
   (repeat(go_big_quiet_step (fail)));refine aH ?_
   intro w9 wZ;go_wp2_with fail;have gm:=U (Bl.call cZ.o wZ);have JG:=U wZ;clear wZ;have n78:¬B7=B8:=ae;have n87:¬B8=B7:=ae;have t7:=zV.o.next gm.o;have t8:=vw.o.next gm.o;have u7:=t7.lt;have f7:=t7.free 0;have x8:=t8.lt;have f8:=t8.free 0;have y7:=t7.cell 0;have y8:=t8.cell 0;simp only[aK]at y7 y8;clear t7 t8;refine dZ JG.o (LG ?_)
   (repeat(go_big_quiet_step (fail)));refine aH (wG ?_)
   go_wp2;refine bS _ rfl (wG ?_);go_wp2;refine bS _ rfl (LF ?_);first|refine uO ?_|simp only[iI]
   gi_wp2_with fail;have hbd:=gm.o;obtain⟨k7,k8⟩:=UY (p:=true) (q:=true) (zV.o.next hbd) (vw.o.next hbd) n78;have ht:aA (λq=>q=B7∨q=B8) w9 ((w9.setCell ⟨B7,0,none⟩ (.bool true)).setCell ⟨B8,0,none⟩ (.bool true)):=(aA.setCell _ _ ⟨B7,0,none⟩ _ (.inl rfl)).trans (aA.setCell _ _ ⟨B8,0,none⟩ _ (.inr rfl));have hsz:=hbd.size;refine⟨⟨fK hsz ht.size,λq hq=>?_⟩,⟨(wI.o.next hbd).turns ht ae,(BI.o.next hbd).turns ht ae⟩,⟨?_,?_⟩,aA.below (Bl.call HB.o hbd) ht ae (λq h=>ae)⟩
   ·have hlq:q<W.heap.size∧¬(q=B7∨q=B8):=by
     have:=HOW.o q;rcases hq with h|h|h|h
     ·omega
     ·have:=this h;omega
     ·omega
     ·omega
    exact(ht.block q ae hlq.2).trans (hbd.block q hlq.1)
   ·rw[Mg.o];exact k7
   ·rw[Hg.o];exact k8
 case done=>
  rintro own ls W hls ⟨⟨a4,a5⟩,⟨a7,a8⟩,hb⟩ ho hs hK;have e1:uh ls P1=Ts.any P1:=aA2;have e2:uh ls P2=Ts.any P2:=aA2;rw[e1]at a7;rw[e2]at a8;obtain⟨s1,hs1⟩:∃p,Hid (Ts.any P1=p):=⟨_,U rfl⟩;obtain⟨s2,hs2⟩:∃p,Hid (Ts.any P2=p):=⟨_,U rfl⟩;obtain⟨N,hN⟩:∃p,Hid (MU Ts P1 P2=p):=⟨_,U rfl⟩;have HN:Hid (N=if s1=false then 0 else if s2 then 1 else 2):=U (by rw[←hN.o,←hs1.o,←hs2.o];rfl);rw[hs1.o]at a7;rw[hs2.o]at a8;have r7:=a7.cell 0;have r8:=a8.cell 0;have m7:=a7.lt;have m8:=a8.lt;simp only[aK]at r7 r8;have jK:=U hb;have HK:=U hK;clear a4 a5 a7 a8 hb ho hls e1 e2 hK;cases s1
  case false=>
   gi_wp2_with fail;refine⟨aj,.inl ⟨_,_,rfl,sO HK.o,?_⟩⟩;refine⟨_,Lc rfl _ _ _,?_⟩;rw[hN.o,HN.o];exact⟨rfl,jK.o.trans (AO (w:=w) (aV _) W _ _ _ ae HK.o rfl rfl)⟩
  case true=>
   cases s2
   case false=>
    gi_wp2_with fail;refine⟨aj,.inl ⟨_,_,rfl,sO HK.o,?_⟩⟩;refine⟨_,Lc rfl _ _ _,?_⟩;rw[hN.o,HN.o];exact⟨rfl,jK.o.trans (AO (w:=w) (aV _) W _ _ _ ae HK.o rfl rfl)⟩
   case true=>
    gi_wp2_with fail;refine⟨aj,.inl ⟨_,_,rfl,sO HK.o,?_⟩⟩;refine⟨_,Lc rfl _ _ _,?_⟩;rw[hN.o,HN.o];exact⟨rfl,jK.o.trans (AO (w:=w) (aV _) W _ _ _ ae HK.o rfl rfl)⟩
 case stop=>exact aFt
end
section
attribute [local go_sem] Qv
theorem alZ{p q:Tmp}{t1 t2:TypeId}(h:fn.results=#[.cell p t1,.cell q t2])(tmps:Array Value)(w:World)(g1 g2:Nat)(e1 e2:TypeId)(c1 c2:Array Value)(f1 f2:Nat×Nat)(d1 d2:TypeDesc)
  (hp:tmps.getD p undef=.pointer (some ⟨g1,0,none⟩)) (hq:tmps.getD q undef=.pointer (some ⟨g2,0,none⟩)) (hg1:w.heap[g1]?=some (.cells c1 e1 f1)) (hg2:w.heap[g2]?=some (.cells c2 e2 f2))
  (hu1:P.underlying t1=some d1) (hu2:P.underlying t2=some d2) (hd1:(match d1 with|.struct _|.array _ _=>true|_=>false)=true) (hd2:(match d2 with|.struct _|.array _ _=>true|_=>false)=true) (hi1:(P.info? t1).map (·.size)=some c1.size) (hi2:(P.info? t2).map (·.size)=some c2.size) :
  (results fn tmps).run P w=.ok (.tuple #[.agg c1,.agg c2]) w:=by
 have hp':tmps[p]?.getD undef=.pointer (some ⟨g1,0,none⟩):=Oh;have hq':tmps[q]?.getD undef=.pointer (some ⟨g2,0,none⟩):=Sk;simp[results,h,hp',hq',asAddr,wU,Result.andThen,al8 w g1 e1 t1 c1 f1 d1 hg1 hu1 hd1 hi1,al8 w g2 e2 t2 c2 f2 d2 hg2 hu2 hd2 hi2]
def wH(r:Int):Sp:=if 0<r then(r,100000)else(-100000,r)
def vS(r:Int):Sp:=if 0<r then(-100000,r-1)else(r+1,100000)
theorem aBE(r:Int)(w:World)(h1:-400≤r)(h2:r≤400):Calls prog 86 #[r] w λe w'=>e=.returned (.tuple #[.agg #[.int .i64 (wH r).1,.int .i64 (wH r).2],.agg #[.int .i64 (vS r).1,.int .i64 (vS r).2]])∧BL w w':=by
 go_in;go_wp2_with (with_reducible_and_instances refine dI 5 ?_)
 have X2:=(Bx.new (W:=w) (t:=41) (vs:=[.int .i64 0,.int .i64 0]) rfl).alloc (.cells #[.int .i64 0,.int .i64 0] 41);have X3:=Bx.new (W:=w.alloc (.cells #[.int .i64 0,.int .i64 0] 41)) (B:=w.heap.size+1) (t:=41) (vs:=[.int .i64 0,.int .i64 0]) aj;have HB0:=U (Bl.alloc (Bl.alloc (aB w.heap.size w) (.cells #[.int .i64 0,.int .i64 0] 41)) (.cells #[.int .i64 0,.int .i64 0] 41));generalize (w.alloc (.cells #[.int .i64 0,.int .i64 0] 41)).alloc (.cells #[.int .i64 0,.int .i64 0] 41)=w0 at *;refine⟨?_⟩;have a0:=X2.cell 0;have a1:=X2.cell 1;have fa0:=X2.free 0;have fa1:=X2.free 1;have la:=X2.lt;have b0:=X3.cell 0;have b1:=X3.cell 1;have fb0:=X3.free 0;have fb1:=X3.free 1;have lb:=X3.lt;simp only[aK,bB]at a0 a1 b0 b1;by_cases hr:0<r
 ·have wz:IntKind.i64.wrap (r-1)=r-1:=dE _ ae;go_wp2_with fail;have Y2:=(((X2.set 0 (.int .i64 r) aj).set 1 (.int .i64 100000) aj).far (p:=⟨w.heap.size+1,0,none⟩) adm (.int .i64 (-100000))).far (p:=⟨w.heap.size+1,1,none⟩) adm (.int .i64 (r-1));have Y3:=((((X3.far (p:=⟨w.heap.size,0,none⟩) adn (.int .i64 r)).far (p:=⟨w.heap.size,1,none⟩) adn (.int .i64 100000)).set 0 (.int .i64 (-100000)) aj).set 1 (.int .i64 (r-1)) aj);have LW:=Bl.setCell (Bl.setCell (Bl.setCell (Bl.setCell HB0.o (p:=⟨w.heap.size,0,none⟩) WI (.int .i64 r)) (p:=⟨w.heap.size,1,none⟩) WI (.int .i64 100000)) (p:=⟨w.heap.size+1,0,none⟩) Ll (.int .i64 (-100000))) (p:=⟨w.heap.size+1,1,none⟩) Ll (.int .i64 (r-1));obtain⟨t2,f2,o2⟩:=Y2.obj aj;obtain⟨t3,f3,o3⟩:=Y3.obj aj;exact kE (alZ results86 _ _ _ _ t2 t3 _ _ f2 f3 _ _ rfl rfl o2 o3 underlying41 underlying41 rfl rfl aF aF) rfl ⟨aA5,LW⟩
 ·have wz:IntKind.i64.wrap (r+1)=r+1:=dE _ ae;go_wp2_with fail;have Y2:=(((X2.set 0 (.int .i64 (-100000)) aj).set 1 (.int .i64 r) aj).far (p:=⟨w.heap.size+1,0,none⟩) adm (.int .i64 (r+1))).far (p:=⟨w.heap.size+1,1,none⟩) adm (.int .i64 100000);have Y3:=((((X3.far (p:=⟨w.heap.size,0,none⟩) adn (.int .i64 (-100000))).far (p:=⟨w.heap.size,1,none⟩) adn (.int .i64 r)).set 0 (.int .i64 (r+1)) aj).set 1 (.int .i64 100000) aj);have LW:=Bl.setCell (Bl.setCell (Bl.setCell (Bl.setCell HB0.o (p:=⟨w.heap.size,0,none⟩) WI (.int .i64 (-100000))) (p:=⟨w.heap.size,1,none⟩) WI (.int .i64 r)) (p:=⟨w.heap.size+1,0,none⟩) Ll (.int .i64 (r+1))) (p:=⟨w.heap.size+1,1,none⟩) Ll (.int .i64 100000);obtain⟨t2,f2,o2⟩:=Y2.obj aj;obtain⟨t3,f3,o3⟩:=Y3.obj aj;exact kE (alZ results86 _ _ _ _ t2 t3 _ _ f2 f3 _ _ rfl rfl o2 o3 underlying41 underlying41 rfl rfl aF aF) rfl ⟨aA5,LW⟩
def Gy(r:Int):Bool:=decide (r≠0∧-400≤r∧r≤400)
theorem aBL(r:Int)(w:World):Calls prog 45 #[r] w (oK (Gy r) w):=by
 go_in;by_cases h:r=0
 ·subst h;go_wp2;go_ret;exact⟨bu (by simp[Gy]),aB _ _⟩
 ·have q:(r != 0)=true:=wu;have HE:Hid ((decide (-400≤r)&&decide (r≤400))=Gy r):=U (by unfold Gy;simp[h]);clear h;go_wp2_with fail;refine(win (-400) 400 r w).mono ?_;rintro e w1 ⟨rfl,hb⟩;rw[HE.o];obtain⟨z,hz⟩:=nm (Gy r);rw[hz.o];go_wp2;go_ret;exact⟨bu (by rw[hz.o]),hb⟩
theorem adV(a:Option Addr)(n c:Nat)(T:aT)(w:World)(hv:aC Shape.nod.list w (.slice a n c) T)(hT:ib T):Calls prog 88 #[.agg #[.slice a n c]] w (oK (kG T) w):=by
 have HV:=U hv;have HT:=U hT;clear hv hT;go_in;go_wp2_with fail;have hb0:=Bl.alloc (aB w.heap.size w) (.cells #[.slice a n c] 139);refine(aAq (.slice a n c) T _ (HV.o.below hb0) HT.o).mono ?_;rintro e w1 ⟨rfl,hb1⟩;have HB:=U (Bl.call hb0 hb1);clear hb0 hb1;obtain⟨z,hz⟩:=nm (kG T);rw[hz.o];go_wp2;go_ret;exact⟨bu (by rw[hz.o]),HB.o⟩
structure JF(x:aJ)(f:aQ)(st:Int)(Bt Bc By Cs K:Nat)(cs:List Value)(lo hi:Nat)(y:Sp)(w:World):Prop where
 bt:Bx Bt [lo,hi] w
 bc:Bx Bc [.pointer (some ⟨Cs,0,none⟩)] w
 bs:∃vs,Bx Cs (.pointer (some ⟨K,0,none⟩)::vs) w
 by_:Bx By [y.1,y.2] w
 ch:mI x f st K cs w
theorem JF.below{st:Int}{Bt Bc By Cs K:Nat}{hi:Nat}{y:Sp}{w:World}(h:JF x f st Bt Bc By Cs K cs lo hi y w)(hb:BL w w'):JF x f st Bt Bc By Cs K cs lo hi y w':=by
 obtain⟨vs,h3⟩:=h.bs;exact⟨h.bt.next hb,h.bc.next hb,⟨vs,h3.next hb⟩,h.by_.next hb,h.ch.below hb⟩
def xR(ss:List dx)(T:aT)(lo hi:Nat)(y:Sp):Bool:=(List.range (hi+1-lo)).any λk=>kG (kT ss T (lo+k) y)
theorem aBf(x:aJ)(f:aQ)(st z:Int)(Bt Bc By Cs K:Nat)(cs:List Value)(lo hi:Nat)(y:Sp)(a:Option Addr)(n c:Nat)(T:aT)(w:World)(hx:fM x)(hf:qG x f)(hI:JF x f st Bt Bc By Cs K cs lo hi y w)(hz:Ib x f (T,z))(ht:aC Shape.nod.list w (.slice a n c) T)(hlo:lo≤hi)(hhi:(hi:Int)<x.ticks)(hy:-100000≤y.1∧y.1≤100000∧-100000≤y.2∧y.2≤100000):
  Calls prog 87 #[.agg #[.slice a n c],.pointer (some ⟨Bt,0,none⟩),.pointer (some ⟨Bc,0,none⟩),.pointer (some ⟨By,0,none⟩)] w (oK (xR (aL x f) T lo hi y) w):=by
 have HI:=U hI;have HZ:=U hz;have jE:=U ht;have hP:=xY hx hf;have gz:Hid (∀s∈aL x f,-8≤s.2.2∧s.2.2≤8):=U (λs hs=>at6);have htk:=hP.ticks;have wQ:=U hy;have auL:hi<400:=ae;have Af:=U hhi;obtain⟨y1,y2⟩:=y;clear hI hz ht hP hx hf hhi hy;have X4:=Bx.new (W:=w) (t:=139) (vs:=[.slice a n c]) rfl;have HB0:=U (Bl.alloc (aB w.heap.size w) (.cells #[.slice a n c] 139));go_in;go_wp2_with (with_reducible_and_instances refine dI 7 ?_)
 generalize w.alloc (.cells #[.slice a n c] 139)=w0 at *;refine⟨?_⟩;have aX:=U X4;have I0:=HI.o.below HB0.o;have c0:=I0.bt.cell 0;have l0:=I0.bt.lt;simp only[aK]at c0;clear X4 I0;go_wp2_with fail;clear c0 l0
 go_loopw [6] (λs6 wr=>∃k:Nat,lo+k≤hi+1∧s6=.int .i64 ((lo+k:Nat):Int)∧Hid (∀j,j<k→kG (kT (aL x f) T (lo+j) (y1,y2))=false)∧Hid (BL w wr)∧Hid (Bx w.heap.size [.slice a n c] wr)) (λs6 _=>hi+1-(intOf s6).toNat)
 case atStart=>exact⟨0,ae,aj,U (λj hj=>ae),HB0,aX⟩
 case round=>
  clear aX HB0;obtain⟨k,hk,rfl,HA,HB,aX⟩:=hrel;have I:=HI.o.below HB.o;have c1:=I.bt.cell 1;have l1:=I.bt.lt;simp only[aK,bB]at c1;obtain⟨tk,xe⟩:∃t,Hid (lo+k=t):=⟨_,U rfl⟩;rw[xe.o];have wn:IntKind.i64.wrap ((tk:Int)+1)=(tk:Int)+1:=dE _ Nf;by_cases hle:tk≤hi
  ·obtain⟨vs,I3⟩:=I.bs;have e0:=I.bc.cell 0;have f0:=I3.cell 0;have g0:=I.by_.cell 0;have g1:=I.by_.cell 1;have h0:=aX.o.cell 0;have le:=I.bc.lt;have lf:=I3.lt;have lg:=I.by_.lt;have lh:=aX.o.lt;simp only[aK,bB]at e0 f0 g0 g1 h0;obtain⟨v6,k1,k2⟩:=I.ch.list;have hlen:=HZ.o.len;dsimp only at hlen;have HC:=U (λ(W:World) (hb:BL wr W)=>ahp K cs v6 (.slice a n c) (aL x f) T tk y1 y2 W (I.ch.m.bx.next hb) k1 (k2.below hb) (jE.o.below (Bl.call HB.o hb)) (λ_=>True) (jE.o.below (Bl.call HB.o hb)) HZ.o.ok KD (HZ.o.stg tk KD) KD (HZ.o.stg (tk+1) KD) ⟨wQ.o.1,wQ.o.2.1,wQ.o.2.2.1,wQ.o.2.2.2⟩ gz.o);clear k1 k2 hlen I I3;go_wp2;refine iQ [7,8] [7,8] 0 [] [(0,[0,1,2,3,4,5,6],7),(0,[],8)] [] [] [(0,[_,_,_,_,_,_,_],7,_),(0,[],8,_)] [] ?_;refine aH (iP ?_)
   (repeat(go_big_quiet_step (fail)));refine aH ?_
   intro nq;have hbq:BL wr (wr.drewN nq):=Bl.drewN (aB _ _) nq;go_wp2_with fail;refine(HC.o _ hbq).mono ?_;rintro e w1 ⟨v,rfl,hv,hb1,-⟩;obtain⟨a1,c1',rfl,_,_⟩:=hv.shape;have HV:=U hv;have HB1:=U (Bl.call hbq hb1);have HNT:Hid (ib (kT (aL x f) T tk (y1,y2))):=U ((UZ HZ.o.nods _ _ _).trkB ae);clear hv hbq hb1;generalize (kT (aL x f) T tk (y1,y2)).length=nn at *;go_wp2;refine bS _ rfl (rW ?_);go_wp2_with fail;refine(adV a1 nn c1' (kT (aL x f) T tk (y1,y2)) w1 HV.o HNT.o).mono ?_;rintro e w2 ⟨rfl,hb2⟩;have HB2:=U (Bl.call HB.o (Bl.call HB1.o hb2));have bg:=U (aX.o.next (Bl.call HB1.o hb2));obtain⟨q,hq⟩:=nm (kG (kT (aL x f) T tk (y1,y2)));rw[hq.o];clear hb2
   cases q with
   |true=>
    have HF:Hid (xR (aL x f) T lo hi (y1,y2)=true):=U (by
     unfold xR;rw[FU]
     exact⟨k,fD.2 Nf,by rw[xe.o];exact hq.o⟩)
    go_wp2;refine bS _ rfl (jl ?_);go_wp2;go_ret;exact⟨bu HF.o.symm,HB2.o⟩
   |false=>
    go_wp2;refine bS _ rfl (jl ?_);go_wp2;go_roundw
    case rel=>exact⟨k+1,Nf,ay9,U (λj hj=>by
     by_cases e:j<k
     ·exact HA.o j e
     ·obtain rfl:j=k:=ae
      rw[xe.o];exact hq.o),HB2,bg⟩
    case measure=>exact aFF
  ·have HF:Hid (xR (aL x f) T lo hi (y1,y2)=false):=U (by
    unfold xR;rw[List.any_eq_false];intro j hj;have:=HA.o j (by have:=fD.1 hj;have:=xe.o;omega)
    simp[this])
   go_wp2;go_ret;exact⟨bu HF.o.symm,HB.o⟩
end
section
attribute [local go_sem] Qv
attribute [local go_sem] Oper.semAt_some
theorem alY{p:Tmp}{d:TypeDesc}(h:fn.results=#[.cell p ty])(tmps:Array Value)(w:World)(g:Nat)(v:Value)
  (hp:tmps.getD p undef=.pointer (some ⟨g,0,none⟩)) (hc:w.cell? ⟨g,0,none⟩=some v) (hu:P.underlying ty=some d) (hd:(match d with|.struct _|.array _ _=>true|_=>false)=false) :
  (results fn tmps).run P w=.ok v w:=by
 have hp':tmps[p]?.getD undef=.pointer (some ⟨g,0,none⟩):=Oh;simp[results,h,hp',asAddr,loadVar,wU,Result.andThen,al7 hu hd,hc]
def CY(x:aJ)(f:aQ)(st:Int):Bool:=(bT x f st 0 [] true).any λp=>kG p.1
theorem aBC(x:aJ)(f:aQ)(cx:List Value)(i:Nat)(st:Int)(w:World)(hxu:dM w x cx)(hok:fM x)(hfi:x.sheets[i]?=some f)(cO:gG x f=false):
  Calls prog 98 #[.agg cx.toArray,i,st] w (oK (CY x f st) w):=by
 have abF:=hok.sht (qX hfi);have nE:=U (And.intro abF (And.intro cO (V3 x hok abF cO)));have HW0:=U hxu;have hu:Same (λ_=>True) w w:=Same.below (aB _ _);clear abF cO;have hx:=hxu.same hu;have JU:=U hu;have PG:=U hxu;have hsu:=hu.size;clear hxu hu;obtain⟨hi,hf0⟩:=gN.1 hfi;have hf:Hid (x.sheets[i]=f):=U hf0;clear hfi hf0;have bZ:=U hx;have bE:=U hx.len;have dO:=U hok;have HF:=U (WH (hok.sh i hi));obtain⟨va,vs,vr,rfl,hX⟩:=hx;obtain⟨kD,jI,rfl,hs1,hs2⟩:=hX.sheets.shape;unfold maxLen at hs2;have JN:=U hX.sheets;have hns:=hok.sheets;clear hX hok;refine(xW (n:=3)).1 ?_;refine zb func98 rfl trivial ?_ rfl;simp only[ntmps98,jb,dS,fU,Nat.reduceAdd,Nat.reduceSub,kv,kw,kC,kz,fE,gB];have hfn:∀k,Fence.wide.fn k:=λ_=>trivial;have hdp:¬(Fence.wide.depth.isSome=true):=kL;gi_wp2_with fail;have aZ:=U ((Bx.new (W:=w) (t:=30) (vs:=dm x va (.slice kD x.sheets.length jI) vr) rfl).alloc (.cells #[.bool false] 4));have bI:=U (Bx.new (W:=w.alloc (.cells (dm x va (.slice kD x.sheets.length jI) vr).toArray 30)) (B:=w.heap.size+1) (t:=4) (vs:=[.bool false]) aj)
 have HB0:=U (Bl.alloc (Bl.alloc (aB w.heap.size w) (.cells (dm x va (.slice kD x.sheets.length jI) vr).toArray 30)) (.cells #[.bool false] 4));generalize (w.alloc (.cells (dm x va (.slice kD x.sheets.length jI) vr).toArray 30)).alloc (.cells #[.bool false] 4)=w0 at *
 obtain⟨b,o,cf,e1,hbl,hF,hC⟩:∃b o cs,kD=some ⟨b,o,none⟩∧b<w0.heap.size∧nW w x.sheets[i] cs∧Cx b (o+i*24) cs w0:=by
  obtain⟨ya,ys,yr,e,hY⟩:=PG.o;have e7:(dm x va (.slice kD x.sheets.length jI) vr)[7]?=(dm x ya ys yr)[7]?:=NW;simp only[dm,aK,bB,Cy]at e7;have hY2:=hY.sheets;rw[←e7]at hY2;obtain⟨b,o,cs,h1,h2,h3,h4⟩:=CW hY2 hi;have hb0:=HB0.o.size;have h5:Same (λ_=>True) w w0:=JU.o.trans (Same.below HB0.o);exact⟨b,o,cs,h1,aa8,h3,aa8,λj hj=>(h5.cell (p:=⟨b,o+i*24+j,none⟩) trivial ay3).trans (di hj).symm⟩
 subst e1;have HC:=U hC;have jm:=U hF.len;have DU:=U hF;have hst:=ah5 hF hC;rw[hf.o]at HF DU hst;have hP:=xY dO.o HF.o;have HP:=U hP;have c17:=aZ.o.cell 7;have Ro:=aZ.o.lt;simp only[dm,aK,bB]at c17;have i1:(0:Int)≤(i:Int):=ae;have i2:(i:Int)<x.sheets.length:=ae;clear hF hC hP;refine Ou ?_;refine rU [7] [7] 0 [] [(1,[0,1,2,3,4,5,6],7)] [8] [] [(1,[_,_,_,_,_,_,_],7,_)] [_] ?_;refine aH (iP ?_)
 (repeat(first|(go_big_quiet_want;(apply bH eH gH rfl);(focus exact HC.o);(focus exact jm.o);go_big_quiet_op;go_big_quiet_on)|(go_big_quiet_want;(first|apply bH eH bK rfl|apply bH eU bK rfl|apply bH eH gH rfl|apply bH eU gH rfl|apply bH eH fZ rfl|apply bH eU fZ rfl|apply bH eH mV rfl|apply bH eU mV rfl);(focus exact AU);(focus exact rfl);go_big_quiet_op;go_big_quiet_on)|go_big_quiet_step (first|fail)));refine aH ?_
 intro nq;go_wp2_with fail;have hbq:BL w0 (w0.drewN nq):=Bl.drewN (aB _ _) nq;refine(anK x f _ cf st w (w0.drewN nq) ((JU.o.trans (Same.below HB0.o)).trans (Same.below hbq)) PG.o DU.o HF.o.ppr HF.o.ink HF.o.drum HF.o.pen dO.o.reads).mono ?_;rintro e w1 ⟨C,M,cs,rfl,hO,hC,hM,hb1⟩;have HB1:=U (Bl.call (Bl.call HB0.o hbq) hb1);have TZ:=U ((bI.o.next hbq).next hb1);have l6:=bI.o.lt;have VP:=hbq.size;have hCw:w0.heap.size≤C:=ae;have hMw:w0.heap.size≤M:=ae;have hCz:=hC;have hMz:=hM;have avo:=hb1.size;have HO:=U hO;clear hO hC hM hb1 hbq hst c17 Ro hbl;go_wp2;refine bS _ rfl (qy ?_)
 (repeat(go_big_quiet_step (fail)));refine aH ?_
 intro n2;have hbq:BL w1 (w1.drewN n2):=Bl.drewN (aB _ _) n2;have HBQ:=U hbq;simp only[iI,I8];clear hbq;gi_wp2_with fail;obtain⟨vt,vb,DI,vs',vm,zQ,tk,zP,sZ,vz,hcs,htk,g1,g2,g3,g4,g5,g6⟩:=HO.o.sht;subst htk;have hbq:=HBQ.o;have JX:=U (HO.o.bx.next hbq);have HB2:=U (Bl.call HB1.o hbq);have Mr:=U (TZ.o.next hbq);have q22:cs[22]?=some sZ:=R4;have Dl:cs[20]?=some (.int .i64 x.ticks):=R4;have oV:cs[14]?=some (.int .i64 f.sheet.band):=R4;have yG:cs[23]?=some (.slice none 0 0):=R4;have q24:cs[24]?=some (.map (some M)):=R4;refine(jH jJ (ahz C M cs sZ (df f) x.ticks f.sheet.band (w1.drewN n2) JX.o q22 Dl oV yG q24 (Shape.mono _ (Shape.keep _ g5 (Same.below hbq)) (λq _ h=>⟨h.1,h.2.1⟩)) ⟨λg hg=>HP.o.gaps.1 g hg,HP.o.gaps.2⟩ HP.o.ticks HP.o.band (HO.o.ix.below hbq) HO.o.ne)).mono ?_;rintro e w4 ⟨rfl,v,hl,hbx,hix,ht⟩
 have DT:Hid (∀W,Same (λq=>q<w.heap.size∨(w0.drewN nq).heap.size≤q) w4 W→mI x f st C (cs.set 23 v) W):=U (λW hW=>JE.done (Z:=λq=>q<w.heap.size∨(w0.drewN nq).heap.size≤q) (w':=w4) (v:=v) (w:=w1.drewN n2) ⟨JX.o,HO.o.ne,⟨vt,vb,DI,vs',vm,zQ,_,zP,sZ,vz,hcs,rfl,g1.keep (Same.below hbq),Shape.keep _ g2 (Same.below hbq),Shape.keep _ g3 (Same.below hbq),Shape.keep _ g4 (Same.below hbq),Shape.keep _ g5 (Same.below hbq),Shape.keep _ g6 (Same.below hbq)⟩,HO.o.ix.below hbq⟩ (Shape.mono _ hl λq _ h=>.inr (by have:=hbq.size;omega)) hbx hix ht (.inr hCz) (.inr hMz) W hW);have bX:=U (aA.below HB2.o ht (by have:=HB2.o.size;omega) (λq h=>Gw));have Ms:=U (Mr.o.turns ht (λh=>Gw));clear hl hbx hix ht g1 g2 g3 g4 g5 g6 q22 Dl oV yG q24 hcs hbq JX Mr HB2 HBQ;have EG:=Ms.o.lt;gi_wp2_with fail;refine(jH jJ (U2 C 0 none 0 0 true w4)).mono ?_;rintro e w2 ⟨rfl,kW,hBa,hBw,uD,hb2⟩;have HPT:=HP.o.ticks;have qC:=U (λn=>aAK (λq=>q<w.heap.size∨(w0.drewN nq).heap.size≤q) x f st C (cs.set 23 v) 0 [] w4.heap.size (w4.heap.size+3) (w4.heap.size+2) (w4.heap.size+1) n w4 w2 DT.o HP.o nE.o.2.2 hb2.size (λq _ hq=>hb2.block q hq) kW hBa);have hn2:w4.heap.size+4≤w2.heap.size:=aa9
 have HB2:=U (Bl.call bX.o hb2);have Mr:=U (Ms.o.next hb2);have Ch:=U (λp (h:p∈bT x f st 0 [] true)=>GL dO.o nE.o.1 nE.o.2.1 (λ_=>kH) h);clear kW hBa hBw uD hb2;gi_wp2_with fail;obtain⟨B6,Vg⟩:∃b,Hid (b=w.heap.size+1):=⟨_,U rfl⟩;rw[←Vg.o]at Mr ⊢;have l62:=Mr.o.lt;have aDa:B6<(w0.drewN nq).heap.size:=by have:=Vg.o;omega
 have aDx:w.heap.size≤B6:=by have:=Vg.o;omega
 have aC9:B6<w4.heap.size:=by have:=Vg.o;omega
 have aEc:=HB2.o.size;have ako:=bX.o.size;refine(λ(h:∃A:Nat→(Value×aT×Int)→Act,_)=>h.elim λ_ h=>h) ?_;apply Exists.intro
 refine E8 (gf:=113) (lb:=#[.pointer (some ⟨w4.heap.size,0,none⟩),.pointer (some ⟨w4.heap.size+3,0,none⟩),.pointer (some ⟨w4.heap.size+2,0,none⟩),.pointer (some ⟨w4.heap.size+1,0,none⟩)]) rfl (fo func113 aF rfl) (qC.o _) (λq hq=>ae) (λ_=>rfl)
  (λown pre W=>Bx B6 [.bool false] W∧BL w W∧Hid ((pre.map (·.2)).any (λp=>kG p.1)=false)) ?hI (λcd own pre W=>cd=.ret∧Bx B6 [.bool true] W∧BL w W∧Hid (CY x f st=true)) ?hIx ?h0
  (λown pre y a1 W=>∃bt:Nat,(Bx bt [y.1] W∧w2.heap.size+2≤bt)∧Shape.nod.list.list.reads (λq=>q≠w2.heap.size+1) W [y.1] y.2.1∧y.2∈bT x f st 0 [] true∧(Bx B6 [.bool false] W∧BL w W∧Hid ((pre.map (·.2)).any (λp=>kG p.1)=false))∧a1=?w bt y) ?hAx ?assign ?body ?done ?stop
 case hI=>
  rintro own own' pre A B ⟨a4,hb,h3⟩ ho hs ht hw
  have no:∀q,q<w2.heap.size→¬(own q∨q=w2.heap.size∨q=w2.heap.size+1):=λq hq h=>by
   rcases h with h|h|h
   ·exact aFr
   ·omega
   ·omega
  exact⟨a4.turns ht (no _ ae),aA.below hb ht ae (λq h=>by
   rcases h with h|h|h
   ·exact aFr
   ·omega
   ·omega),h3⟩
 case hIx=>
  rintro cd own own' pre A B ⟨h0,a4,hb,h3⟩ ho hs ht hw
  have no:∀q,q<w2.heap.size→¬(own q∨q=w2.heap.size∨q=w2.heap.size+1):=λq hq h=>by
   rcases h with h|h|h
   ·exact aFr
   ·omega
   ·omega
  exact⟨h0,a4.turns ht (no _ ae),aA.below hb ht ae (λq h=>by
   rcases h with h|h|h
   ·exact aFr
   ·omega
   ·omega),h3⟩
 case h0=>exact⟨Mr.o,HB2.o,U rfl⟩
 case hAx=>
  rintro own pre y a1 A B ⟨bt,⟨h1,h2⟩,h4,h5,⟨a4,hb,h3⟩,h10⟩ ho ht hlt hsz;exact⟨bt,⟨h1.turns ht (λe=>ae),h2⟩,Shape.keep _ h4 (ht.same λb hb _=>hb),h5,⟨a4.turns ht (λe=>ae),aA.below hb ht ae (λq h=>ae),h3⟩,h10⟩
 case assign=>
  rintro ll own pre y W hi' ho hs hlt ⟨ys,hys,hpre⟩ hfa hnc;have HI:=U hi';clear hi';have HM:=U (by rw[←show ys.map (·.2)=bT x f st 0 [] true from hys];exact dz.2 ⟨y,hpre.subset aj,rfl⟩:y.2∈bT x f st 0 [] true);have HT:=U (Shape.mono _ (Sz hfa) (A':=λq=>q≠w2.heap.size+1) λb _ ⟨o,u,h⟩ e=>WW);obtain⟨av,cv,e1,_,_⟩:=(kK HT.o).shape;have jL:=U e1;clear hpre hys hfa hnc;unfold CU;rw[e1];clear e1;gi_wp2;rw[←jL.o];have hbl:BL W (W.alloc (.cells #[y.1] 139)):=Bl.alloc (aB _ _) _;obtain⟨a4,hb,h3⟩:=HI.o;refine⟨fG.of_below hbl λq hq=>?_,W.heap.size,⟨Bx.new rfl,hs⟩,Shape.below HT.o hbl,HM.o,⟨a4.next hbl,Bl.call hb hbl,h3⟩,?_⟩
  ·rcases hq with h|h
   ·omega
   ·rcases h with h|h
    ·exact(ho q h).2
    ·omega
  ·(try unfold BL at *);generalize W.heap.size=bt at *
   rfl
 case body=>
  rintro ll own pre y a1 W ⟨bt,⟨h1,h2⟩,h4,h5,⟨a4,hb,h3⟩,rfl⟩ ho hs hlt _;obtain⟨yv,yT,yz⟩:=y;have HT:=U (show aC Shape.nod.list W yv yT from kK h4);obtain⟨av,cv,rfl,_,_⟩:=HT.o.shape;have HZ:=U (Ch.o _ h5);have xG:Hid (kG yT=true→CY x f st=true):=U (λh=>by unfold CY;rw[List.any_eq_true];exact⟨_,h5,h⟩);have nG:Hid (((pre++[((.slice av yT.length cv,yT,yz):Value×aT×Int)]).map (·.2)).any (λp=>kG p.1)=kG yT):=U (by rw[iT,agd,h3.o];simp);have HB:=U hb;have wI:=U a4;have HOW:=U ho;have rb:=h1.cell 0;have mb:=h1.lt;simp only[aK]at rb;clear h1 h4 h5 a4 hb ho h3;gi_wp2_with fail;refine(jH (E5 _) (adV av yT.length cv yT W HT.o HZ.o.ok)).mono ?_;rintro e w8 ⟨rfl,bq⟩;have cZ:=U bq;clear bq;obtain⟨p,hp⟩:=nm (kG yT);rw[hp.o]at xG nG ⊢;have t6:=wI.o.next cZ.o;have u6:=t6.cell 0;have v6:=t6.lt;have f6:=t6.free 0;simp only[aK]at u6;clear t6
  have hlq:∀q,((((q<w.heap.size∨(w0.drewN nq).heap.size≤q)∧q<w4.heap.size)∨q=w4.heap.size∨q=w4.heap.size+3∨q=w4.heap.size+2∨q=w4.heap.size+1)∨own q∨q=w2.heap.size∨q=w2.heap.size+1)→q<W.heap.size∧q≠B6:=by
   rintro q (h|h|h|h)
   ·omega
   ·have:=HOW.o q h;omega
   ·omega
   ·omega
  have Yw:=U hlq;clear hlq
  cases p with
  |true=>
   gi_wp2_with fail;refine⟨⟨?_,λq hq=>?_⟩,rfl,?_,Bl.setCell (Bl.call HB.o cZ.o) (p:=⟨B6,0,none⟩) (by show w.heap.size≤B6;omega) _,U (by first|exact xG.o rfl|exact xG.o trivial|exact xG.o)⟩
   ·have:=cZ.o.size;simpa using this
   ·exact(JD _ _ _ _ (λe=>(Yw.o q hq).2 e)).trans (cZ.o.block q (Yw.o q hq).1)
   ·exact(wI.o.next cZ.o).set 0 (.bool true) aj
  |false=>
   gi_wp2_with fail;exact⟨⟨cZ.o.size,λq hq=>cZ.o.block q (Yw.o q hq).1⟩,wI.o.next cZ.o,Bl.call HB.o cZ.o,U nG.o⟩
 case done=>
  rintro own ls W hls ⟨a4,hb,h3⟩ ho hs hK;have Fp:Hid (CY x f st=false):=U (by unfold CY;rw[←show ls.map (·.2)=bT x f st 0 [] true from hls];exact h3.o);have jK:=U hb;have HK:=U hK;have wI:=U a4;have u6:=a4.cell 0;have v6:=a4.lt;have f6:=a4.free 0;simp only[aK]at u6;clear a4 hb h3 ho hK hls;gi_wp2_with fail;have hK1:(W.setCell ⟨B6,0,none⟩ (.bool false)).heap[w2.heap.size]?=some (.deferred (some [])):=(JD _ _ _ _ (λe=>by have:w2.heap.size=B6:=e;omega)).trans HK.o;refine⟨aj,.inl ⟨_,_,rfl,sO hK1,?_⟩⟩;have hx1:=wI.o.set 0 (.bool false) aj;have hxf:=hx1.turns ((aA.putObj (W.setCell ⟨B6,0,none⟩ (.bool false)) w2.heap.size (.deferred none)).mono (own':=λq=>q=w2.heap.size) λq h=>h) ae;refine⟨_,alY rfl _ _ B6 (.bool false) rfl (hxf.cell 0) underlying4 rfl,?_⟩;rw[Fp.o];exact⟨rfl,(Bl.setCell jK.o (p:=⟨B6,0,none⟩) (by show w.heap.size≤B6;omega) _).trans (AO (w:=w) (aV _) _ _ _ _ ae hK1 rfl rfl)⟩
 case stop=>
  rintro cd own xs W ⟨rfl,a4,hb,h3⟩ ho hs hK;have jK:=U hb;have HK:=U hK;have wI:=U a4;clear a4 hb ho hK;gi_wp2_with fail;refine⟨aj,.inl ⟨_,_,rfl,sO HK.o,?_⟩⟩;have hxf:=wI.o.turns ((aA.putObj W w2.heap.size (.deferred none)).mono (own':=λq=>q=w2.heap.size) λq h=>h) ae;refine⟨_,alY rfl _ _ B6 (.bool true) rfl (hxf.cell 0) underlying4 rfl,?_⟩;rw[h3.o];exact⟨rfl,jK.o.trans (AO (w:=w) (aV _) W _ _ _ ae HK.o rfl rfl)⟩
end
end Go.Proofs.YtfmckbjeofiegaaGreat
