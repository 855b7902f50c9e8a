/- Part 31 of a proof. -/
import Derived.Test.YtfmckbjeofiegaaGreatA27
set_option maxRecDepth 100000
set_option maxHeartbeats 16000000
set_option linter.all false
open Go Go.RowKit Go.Proofs.Tryz
namespace Go.Proofs.YtfmckbjeofiegaaGreat
variable {k:Nat}
section
attribute [local go_sem] Qv
def EB(x:aJ)(f:aQ)(k:Nat):List Int:=((x.stas.take k).map (·.1)).filter (CY x f)
def KJ(x:aJ)(f:aQ):List Int:=(x.stas.map (·.1)).filter (CY x f)
theorem au4(x:aJ)(f:aQ)(h:k<x.stas.length):EB x f (k+1)=EB x f k++(if CY x f x.stas[k].1=true then [x.stas[k].1]else []):=by
 unfold EB;rw[jF h,iT,wS]
 congr 1
 by_cases e:CY x f x.stas[k].1=true<;>simp[e]
theorem au3(x:aJ)(f:aQ)(k:Nat):(EB x f k).length≤x.stas.length:=by
 unfold EB;refine fK (FV _ _) ?_;simp;omega
theorem aBG(x:aJ)(f:aQ)(cx:List Value)(i:Nat)(w:World)(hx:dM w x cx)(hok:fM x)(hfi:x.sheets[i]?=some f)(cO:gG x f=false):
  Calls prog 57 #[.agg cx.toArray,i] w λe w'=>∃v,e=.returned v∧pK 3 w.heap.size w' v (KJ x f)∧BL w w':=by
 have bZ:=U hx;have bE:=U hx.len;have HX:=U (And.intro hok (And.intro hfi cO));obtain⟨va,vs,vr,hcx,hX⟩:=hx;obtain⟨av,cv,rfl,hv1,hv2⟩:=hX.stas.shape;unfold maxLen at hv2;have hn:=(WT.1 hok.sta).1;have HST:=U hX.stas;have XU:Hid (cx[0]?=some (.slice av x.stas.length cv)):=U (by rw[hcx];rfl);clear hX hok hfi cO hcx vs vr;go_in;go_wp2_with (with_reducible_and_instances refine dI 8 ?_)
 have bg:=U (Bx.new (W:=w) (t:=30) (vs:=cx) rfl);have HB0:=U (Bl.alloc (aB w.heap.size w) (.cells cx.toArray 30));generalize w.alloc (.cells cx.toArray 30)=w0 at *;refine⟨?_⟩;have c0:=(bg.o.cell 0).trans XU.o;have l0:=bg.o.lt;obtain⟨n,hnn⟩:=nm x.stas.length;rw[hnn.o]at c0 hv1 hn;obtain⟨i0,hi,hz0,hz1,hz2⟩:=dY (show(prog.info? 3).map (λi=>(i.zero,i.size,i.bytes))=some (some (.int .i64 0),1,8)from aF);go_wp2_with fail;clear c0 l0
 go_loopw [5,12] (λs5 s12 wr=>∃k:Nat,k≤n∧s12=.int .i64 k∧Hid (pK 3 (w.heap.size+1) wr s5 (EB x f k))∧Hid (BL w wr)∧Hid (Bx w.heap.size cx wr)) (λ_ s12 _=>n-(intOf s12).toNat)
 case atStart=>exact⟨0,tX _,rfl,U (Di (by simp[EB])),HB0,bg⟩
 case round=>
  clear HB0 bg;obtain⟨k,hk,rfl,HO,HB,bg⟩:=hrel;by_cases hlt:k<n
  ·have lT:k<x.stas.length:=Nc;obtain⟨bs,os,vh,eas,g1,g2,g3,g4,xg⟩:=(HST.o.below HB.o).sta_at lT;obtain⟨ah,ch,QA,-,-⟩:=xg.shape;obtain⟨nh,hnh⟩:∃m,Hid (x.stas[k].2.2.2.length=m):=⟨_,U rfl⟩;rw[hnh.o]at QA;subst QA;clear xg;subst eas;have wK:=U (au4 x f lT);have hlen:=au3 x f k;obtain⟨ids,auM⟩:∃z,Hid (x.stas[k].1=z):=⟨_,U rfl⟩;rw[auM.o]at g1 wK;obtain⟨s2,hs2⟩:∃z,Hid (x.stas[k].2.1=z):=⟨_,U rfl⟩;obtain⟨s3,hs3⟩:∃z,Hid (x.stas[k].2.2.1=z):=⟨_,U rfl⟩;rw[hs2.o]at g2;rw[hs3.o]at g3;have hlb:=lt_of_cell g1;have i1:(0:Int)≤(k:Int):=ae;have i2:(k:Int)<(n:Int):=ae;obtain⟨q,hq⟩:=nm (CY x f ids);rw[hq.o]at wK;obtain⟨a5,c5,e5⟩:=lu HO.o;subst e5;obtain⟨m,hm⟩:=nm ((EB x f k).length);have gM:=HO.o;unfold pK jd at gM;rw[hm.o]at gM hlen ⊢;have aDQ:m≤32:=Nc;have DX:=U gM;clear gM HO;have dQ:=Bl.alloc (aB wr.heap.size wr) (.cells #[ids,s2,s3,.slice ah nh ch] 85);have yJ:=U (Cx.whole (bg.o.next dQ));have l2:=bg.o.lt;go_wp2_with (refine dh bK rfl yJ.o bE.o ?_)
   refine(aBC x f cx i ids _ ((bZ.o.below HB.o).below dQ) HX.o.1 HX.o.2.1 HX.o.2.2).mono ?_;rintro e w1 ⟨rfl,hb1⟩;rw[hq.o];have XS:=(Bx.new (W:=wr) (t:=85) (vs:=[.int .i64 ids,.int .i64 s2,.int .i64 s3,.slice ah nh ch]) rfl).next hb1;have s0:=XS.cell 0;have ls:=XS.lt;simp only[aK]at s0;have kN:=U (Bl.call dQ hb1);have HB1:=U (Bl.call HB.o kN.o);have Hu:=U (bg.o.next kN.o);have ol:=U (gV DX.o kN.o);clear dQ hb1 XS g1 g2 g3 g4
   cases q with
   |true=>
    go_wp2_with (at_builtin;go_loud (refine iE (ol.o.alloc _) ⟨w1.heap.size,0,none⟩ 1 1 [ids] hi hz0 hz1 hz2 ?_);intro v15 Ot IQ IL abB)
    go_roundw
    case rel=>
     refine⟨k+1,ae,aY,U ?_,U (gJ (Bl.alloc HB1.o _) IL (by simp;have:=HB1.o.size;omega) (λj hj=>by have:=(ol.o.lt j hj).1;omega)),U ?_⟩
     ·rw[wK.o,aG aj];exact xk IQ (by rw[hm.o]) rfl
     ·exact(Hu.o.alloc _).grown IL (λe=>by have:=(ol.o.lt _ e.symm).1;omega)
    case measure=>exact aFF
   |false=>
    go_wp2;go_roundw
    case rel=>
     refine⟨k+1,ae,aY,U ?_,HB1,Hu⟩;rw[wK.o,aD aj,ow];unfold pK jd;rw[hm.o];exact ol.o
    case measure=>exact aFF
  ·obtain rfl:k=n:=ae;obtain⟨a5,c5,e5⟩:=lu HO.o;subst e5;go_wp2;go_ret;refine⟨_,rfl,?_,HB.o⟩;have h1:KJ x f=EB x f k:=by unfold KJ EB;rw[List.take_of_length_le Nc]
   rw[h1];exact EP HO.o ae
theorem aBi(x:aJ)(f:aQ)(cx:List Value)(C i Bw Bs:Nat)(w:World)(hw:Bx Bw cx w)(hs:Bx Bs [i] w)(hx:dM w x cx)(hok:fM x)(hfi:x.sheets[i]?=some f)(cO:gG x f=false):
  Calls prog 56 #[.pointer (some ⟨C,0,none⟩),.pointer (some ⟨Bw,0,none⟩),.pointer (some ⟨Bs,0,none⟩)] w λe w'=>(∃v q,e=.returned (.tuple #[v,.int .i64 q]))∧BL w w'∧∃v,e=.returned (.tuple #[v,.int .i64 0])∧aC Shape.int w' v (KJ x f):=by
 have HC:=U (Cx.whole hw);have bE:=U hx.len;have HF:=U (aBG x f cx i w hx hok hfi cO);have s0:=hs.cell 0;have ls:=hs.lt;simp only[aK]at s0;clear hw hs hx hok hfi cO;go_in;go_wp2_with (refine dh bK rfl HC.o bE.o ?_)
 refine HF.o.mono ?_;rintro e w1 ⟨v,rfl,hO,hb⟩;have HL:=U (Ja yD hO);have HB:=U hb;clear hO hb;go_wp2;go_ret2;exact⟨⟨_,_,rfl⟩,HB.o,v,rfl,HL.o⟩
def apX(ok:List Int→Prop)(bad:Prop)(w:World)(e:Ending)(w':World):Prop:=BL w w'∧((∃q,q≠0∧bad∧e=.returned (.tuple #[.slice none 0 0,.int .i64 q]))∨(∃v l,ok l∧e=.returned (.tuple #[v,.int .i64 0])∧aC Shape.int w' v l))
def Ue(x:aJ)(i:Int)(l:List Int):Prop:=dA x=0∧∃f,0≤i∧x.sheets[i.toNat]?=some f∧gG x f=false∧l=KJ x f
def apW(x:aJ)(i:Int):Prop:=¬ ∃l,Ue x i l
theorem aBh(x:aJ)(cx:List Value)(i:Int)(w:World)(hx:dM w x cx):
  Calls prog 24 #[.agg cx.toArray,i] w (apX (Ue x i) (apW x i) w):=by
 have bZ:=U hx;have bE:=U hx.len;clear hx;go_in;go_wp2_with (with_reducible_and_instances refine dI 6 ?_)
 have bg:=U ((Bx.new (W:=w) (t:=30) (vs:=cx) rfl).alloc (.cells #[i] 3));have bP:=U (Bx.new (W:=w.alloc (.cells cx.toArray 30)) (B:=w.heap.size+1) (t:=3) (vs:=[.int .i64 i]) aj);have HB0:=U (Bl.alloc (Bl.alloc (aB w.heap.size w) (.cells cx.toArray 30)) (.cells #[i] 3));generalize (w.alloc (.cells cx.toArray 30)).alloc (.cells #[i] 3)=w0 at *;refine⟨?_⟩;have HC:=U (Cx.whole bg.o);have s0:=bP.o.cell 0;have ls:=bP.o.lt;simp only[aK]at s0;go_wp2_with (refine dh bK rfl HC.o bE.o ?_)
 refine(aBq x cx i 56 #[.pointer (some ⟨w.heap.size,0,none⟩),.pointer (some ⟨w.heap.size+1,0,none⟩)] (λ_ _ f e w'=>∃v,e=.returned (.tuple #[v,.int .i64 0])∧aC Shape.int w' v (KJ x f)) w0 (bZ.o.below HB0.o) (fo func56 aF rfl) (λW C cs f h0 hl hf hb hC=>by
  obtain⟨n,hn⟩:∃n:Nat,i=n:=⟨i.toNat,ae⟩
  exact aBi x f cx C n w.heap.size (w.heap.size+1) W (bg.o.next hb) (by rw[←hn];exact bP.o.next hb) ((bZ.o.below HB0.o).below hb) (ma h0) (by have:=hf.2;rwa[hn]at this) hl)).mono ?_
 rintro e w1 ⟨hb1,hP⟩;have HB1:=U (Bl.call HB0.o hb1);clear hb1 s0 ls;rcases hP with⟨h,rfl⟩|⟨h,h2,rfl⟩|⟨h,f,hi0,hf,⟨cO,rfl⟩|⟨cO,W,C,cs,_,_,v,rfl,hv⟩⟩
 ·have HF:=U h;clear h;obtain⟨z,hz⟩:=nm (dA x);rw[hz.o];go_wp2;go_ret2;exact⟨HB1.o,.inl ⟨z,WA,λ⟨l,h⟩=>HF.o h.1,rfl⟩⟩
 ·have HF:=U h2;clear h h2;go_wp2;go_ret2;exact⟨HB1.o,.inl ⟨1,ae,λ⟨l,_,f,h0,hf,_⟩=>HF.o (by have:=(gN.1 hf).1;omega),rfl⟩⟩
 ·have HF:=U (And.intro cO hf);clear h hf cO hi0;go_wp2;go_ret2
  exact⟨HB1.o,.inl ⟨2,ae,λ⟨l,_,f',_,hf',h2,_⟩=>by
   have e:=HF.o.2.symm.trans hf';cases e;have:=HF.o.1;rw[h2]at this
   exact aej this,rfl⟩⟩
 ·have HF:=U (And.intro h (And.intro hi0 (And.intro hf cO)));have HV:=U hv;clear h hf cO hi0 hv;go_wp2;go_ret2;exact⟨HB1.o,.inr ⟨v,_,⟨HF.o.1,f,HF.o.2.1,HF.o.2.2.1,HF.o.2.2.2,rfl⟩,rfl,HV.o⟩⟩
end
end Go.Proofs.YtfmckbjeofiegaaGreat
