/- Part 28 of a proof. -/
import Derived.Test.YtfmckbjeofiegaaGreatA25
set_option maxRecDepth 100000
set_option maxHeartbeats 16000000
set_option linter.all false
open Go Go.RowKit Go.Proofs.Tryz
namespace Go.Proofs.YtfmckbjeofiegaaGreat
variable {f:aQ}{cs:List Value}{k:Nat}
section
attribute [local go_sem] Qv
theorem avF:(prog.info? 82).map (λi=>(i.zero,i.size,i.bytes))=some (some (.agg #[.int .i64 0,.int .i64 0,.int .i64 0]),3,24):=aF
def zg(i n:Nat):List (Int×Sp):=(List.range n).map λ(k:Nat)=>((1:Int),((i:Int),(k:Int)))
def Gh(x:aJ)(k:Nat):List (Int×Sp):=(x.sheets.take k).zipIdx.flatMap λp=>zg p.2 p.1.marks.length
def zh(n:Nat):List (Int×Sp):=(List.range n).map λ(k:Nat)=>((2:Int),((0:Int),(k:Int)))
def nL(x:aJ):List (Int×Sp):=Gh x x.sheets.length++zh x.reads.length
theorem arF(x:aJ)(h:k<x.sheets.length):Gh x (k+1)=Gh x k++zg k x.sheets[k].marks.length:=by
 unfold Gh;rw[jF h,List.zipIdx_append,mO];simp only[oF,ags (Nat.le_of_lt h),Zx,List.zipIdx_nil,jN,J5,ow,oJ]
theorem arD(i n:Nat):zg i (n+1)=zg i n++[((1:Int),((i:Int),(n:Int)))]:=by simp[zg,jq]
theorem arE(n:Nat):zh (n+1)=zh n++[((2:Int),((0:Int),(n:Int)))]:=by simp[zh,jq]
theorem as1{u:World}(h:nW u f cs):∃a c,cs[22]?=some (.slice a f.marks.length c)∧f.marks.length≤c∧c≤maxLen:=by
 obtain⟨vt,vb,vr,vs,vm,vn,rfl,_,hm,_⟩:=h;obtain⟨a,c,rfl,h1,h2⟩:=aC.shape (Shape.list_far hm);exact⟨a,c,rfl,h1,h2⟩
theorem aBx(x:aJ)(cx:List Value)(w:World)(hx:dM w x cx)(h1:x.sheets.length≤1000)(h2:x.reads.length≤1000)(h3:∀f∈x.sheets,f.marks.length≤1000):
  Calls prog 99 #[.agg cx.toArray] w λe w'=>∃v,e=.returned v∧qF 82 w.heap.size w' v (nL x)∧BL w w':=by
 obtain⟨va,vs,vr,hcx,hX⟩:=hx;obtain⟨qs,cs,rfl,hs1,hs2⟩:=hX.sheets.shape;obtain⟨qr,cr,rfl,hr1,hr2⟩:=hX.reads.shape;unfold maxLen at hs2 hr2;have JN:=U hX.sheets;have Ff:Hid (cx[7]?=some (.slice qs x.sheets.length cs)):=U (by rw[hcx];rfl);have HC8:Hid (cx[8]?=some (.slice qr x.reads.length cr)):=U (by rw[hcx];rfl);have H3:=U h3;clear h3 hX hcx va;obtain⟨i0,hi,hz0,hz1,hz2⟩:=dY avF;go_in;go_wp2_with (with_reducible_and_instances refine dI 8 ?_)
 have aZ:=U (Bx.new (W:=w) (t:=30) (vs:=cx) rfl);have HB0:=U (Bl.alloc (aB w.heap.size w) (.cells cx.toArray 30));generalize w.alloc (.cells cx.toArray 30)=w0 at *;refine⟨?_⟩;have c7:=(aZ.o.cell 7).trans Ff.o;have l0:=aZ.o.lt;obtain⟨n,hn⟩:=nm x.sheets.length;obtain⟨nr,hnr⟩:∃n,Hid (x.reads.length=n):=⟨_,U rfl⟩;rw[hn.o]at c7 h1;rw[hnr.o]at HC8 h2;go_wp2_with fail;clear c7 l0
 go_loopw [3,11] (λou iv wr=>∃k:Nat,k≤n∧iv=.int .i64 k∧Hid (qF 82 (w.heap.size+1) wr ou (Gh x k))∧(Gh x k).length≤1000*k∧Hid (BL w wr)∧Hid (Bx w.heap.size cx wr)) (λ_ iv _=>n-(intOf iv).toNat)
 case atStart=>exact⟨0,ae,rfl,U (nJ _ _ _ _),by simp[Gh],HB0,aZ⟩
 case round=>
  clear HB0 aZ;obtain⟨k,hk,rfl,HO,hlen,HB,aZ⟩:=hrel;obtain⟨a5,c5,e5⟩:=lu HO.o;subst e5;by_cases hlt:k<n
  ·have lT:k<x.sheets.length:=iH;obtain⟨b,o,cf,e1,hbl,hF,hC⟩:=CW (JN.o.below HB.o) lT;subst e1;have HC:=U hC;have jm:=U hF.len;have ky:=U hF.one;obtain⟨am,cm,hmk,hm1,hm2⟩:=as1 hF;unfold maxLen at hm2;have Fu:=U hmk;have HT:=U (arF x lT);have hm3:=H3.o _ (eu lT);obtain⟨mn,hmn⟩:∃m,Hid (x.sheets[k].marks.length=m):=⟨_,U rfl⟩;rw[hmn.o]at Fu HT hm1 hm3;have i1:(0:Int)≤(k:Int):=ae;have i2:(k:Int)<(n:Int):=ae;have xK:=U (il HO.o (Bl.alloc (aB wr.heap.size wr) (.cells cf.toArray 65)));have BM:=U (Bl.alloc HB.o (.cells cf.toArray 65));have JY:=U (aZ.o.alloc (.cells cf.toArray 65));have tV:=U (Bx.new (W:=wr) (t:=65) (vs:=cf) rfl);have hsz:=HB.o.size;clear hF hC hmk aZ;go_wp2_with (first|(refine dh gH rfl HC.o jm.o ?_)|(refine xA gH rfl rfl rfl rfl jm.o ky.o ?_)|(with_reducible_and_instances refine dI 16 ?_))
   generalize wr.alloc (.cells cf.toArray 65)=w2 at *;refine⟨?_⟩;have CK:=(tV.o.cell 22).trans Fu.o;have lf:=tV.o.lt;obtain⟨N,hN⟩:∃l,Hid (Gh x k=l):=⟨_,U rfl⟩;rw[hN.o]at xK hlen HT ⊢;go_wp2_with fail;clear CK lf HO
   go_loopw [3,19] (λou iv wi=>∃m:Nat,m≤mn∧iv=.int .i64 m∧Hid (qF 82 (w.heap.size+1) wi ou (N++zg k m))∧Hid (BL w wi)∧Hid (Bx w.heap.size cx wi)) (λ_ iv _=>mn-(intOf iv).toNat)
   case atStart=>exact⟨0,ae,rfl,by simpa[zg]using xK,BM,JY⟩
   case round=>
    clear xK BM JY;obtain⟨m,hm,rfl,HO,HB2,bg⟩:=hrel;obtain⟨a6,c6,e6⟩:=lu HO.o;subst e6;have hcl:(zg k m).length=m:=by simp[zg]
    by_cases hlm:m<mn
    ·have Po:=U (arD k m);have abv:(N++zg k m).length≤2000000:=ami;have hHM:Hid (N++zg k (m+1)=(N++zg k m)++[((1:Int),((k:Int),(m:Int)))]):=U (by rw[Po.o,yS]);generalize N++zg k m=Z at *;have i3:(0:Int)≤(m:Int):=ae;have i4:(m:Int)<mn:=ae;have hsz2:=HB2.o.size;go_wp2_with (at_builtin;go_loud (refine iE (HO.o.alloc _) ⟨wr.heap.size,0,none⟩ 1 1 [.int .i64 1,k,m] hi hz0 hz1 hz2 ?_);intro v' w4 hown' hgrow bY)
     have fu:=U (xk (x:=((1:Int),((k:Int),(m:Int)))) hown' rfl rfl);have hb4:=U (gJ (Bl.alloc HB2.o _) hgrow bC (λj hj=>by have:=(HO.o.lt j hj).1;omega));have aX:=U ((bg.o.alloc _).grown hgrow (λe=>by have:=(HO.o.lt _ e.symm).1;omega));clear hown' hgrow bY;go_roundw
     case rel=>exact⟨m+1,ae,aY,by rw[hHM.o];exact fu,hb4,aX⟩
     case measure=>exact aFF
    ·have hmm:m=mn:=ae;subst hmm;go_wp2;go_roundw
     case rel=>exact⟨k+1,ae,aY,by rw[HT.o];exact HO,by rw[HT.o,dn,hcl];omega,HB2,bg⟩
     case measure=>exact aFF
  ·have hkk:k=n:=ae;subst hkk;have c8:=(aZ.o.cell 8).trans HC8.o;have l8:=aZ.o.lt;obtain⟨N,hN⟩:∃l,Hid (Gh x k=l):=⟨_,U rfl⟩;rw[hN.o]at HO hlen ⊢;go_wp2_with fail;clear c8 l8
   go_loopw [3,33] (λou iv wi=>∃m:Nat,m≤nr∧iv=.int .i64 m∧Hid (qF 82 (w.heap.size+1) wi ou (N++zh m))∧Hid (BL w wi)) (λ_ iv _=>nr-(intOf iv).toNat)
   case atStart=>exact⟨0,ae,rfl,by simpa[zh]using HO,HB⟩
   case round=>
    clear HO HB;obtain⟨m,hm,rfl,HO,HB2⟩:=hrel;obtain⟨a6,c6,e6⟩:=lu HO.o;subst e6;have hcl:(zh m).length=m:=by simp[zh]
    by_cases hlm:m<nr
    ·have Po:=U (arE m);have abv:(N++zh m).length≤2000000:=ami;have hHM:Hid (N++zh (m+1)=(N++zh m)++[((2:Int),((0:Int),(m:Int)))]):=U (by rw[Po.o,yS]);generalize N++zh m=Z at *;have i3:(0:Int)≤(m:Int):=ae;have i4:(m:Int)<nr:=ae;have hsz2:=HB2.o.size;go_wp2_with (at_builtin;go_loud (refine iE (HO.o.alloc _) ⟨wr.heap.size,0,none⟩ 1 1 [.int .i64 2,.int .i64 0,m] hi hz0 hz1 hz2 ?_);intro v' w4 hown' hgrow bY)
     have fu:=U (xk (x:=((2:Int),((0:Int),(m:Int)))) hown' rfl rfl);have hb4:=U (gJ (Bl.alloc HB2.o _) hgrow bC (λj hj=>by have:=(HO.o.lt j hj).1;omega));clear hown' hgrow bY;go_roundw
     case rel=>exact⟨m+1,ae,aY,by rw[hHM.o];exact fu,hb4⟩
     case measure=>exact aFF
    ·have hmm:m=nr:=ae;subst hmm;go_wp2;go_ret;refine⟨_,rfl,?_,HB2.o⟩;have h1:nL x=N++zh m:=by unfold nL;rw[hn.o,hnr.o,hN.o]
     rw[h1];exact EP HO.o ae
end
end Go.Proofs.YtfmckbjeofiegaaGreat
