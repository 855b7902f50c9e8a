/- Part 11 of a proof. -/
import Derived.Test.YtfmckbjeofiegaaGreatA7
set_option maxRecDepth 100000
set_option maxHeartbeats 16000000
set_option linter.all false
open Go Go.RowKit Go.Proofs.Tryz
namespace Go.Proofs.YtfmckbjeofiegaaGreat
variable {a:Act}{K:Act→World→Prop}{af:Array Edge}{ops:Array Oper}{d:jD}{Q:Exit→Act→World→Prop}{F:Fence}{f:aQ}{rest:List Oper}{cs vs:List Value}{B c fuel i id k o:Nat}{A:Nat→Prop}{oi:Oper}{P:Program}{α:Type}{e ty:TypeId}{u v vr vt:Value}{x:aJ}{W w' w1:World}{C:World→Prop}
section
variable {P:Program} {ops:Array Oper} {Q:Exit→Act→World→Prop} {mt mv:List Nat} {D:World→Prop}
def mf(P:Program)(ops:Array Oper)(mt mv:List Nat)(Q:Exit→Act→World→Prop)(D:World→Prop):Nat→Array Bool→Act→(World→Prop)→Prop
 |0,listed,a,C=>Region.ready .any ops listed=[]∧∀w',C w'→Q .normal a w'
 |fuel+1,listed,a,C=>(Region.ready .any ops listed=[]→∀w',C w'→Q .normal a w')∧
  ∀i∈Region.ready .any ops listed,∀w',C w'→wpOp P ops Q i (λa' w''=>∃C',C' w''∧(∀w,C' w→D w)∧(i∈mt∨∀w,C' w→C w)∧(i∈mv∨C'=C)∧mf P ops mt mv Q D fuel (bR listed i) a' C') a w'
theorem adZ:∀(fuel:Nat) (listed:Array Bool) (a:Act) (C:World→Prop) (w:World),C w→mf P ops mt mv Q D fuel listed a C→wpAny P .any ops Q fuel listed a w
 |0,_,_,_,w,hw,h=>⟨h.1,h.2 w hw⟩
 |fuel+1,_,_,_,w,hw,h=>⟨λe=>h.1 e w hw,λi hi=>Jw (λa' w' ⟨C',h1,_,_,_,h2⟩=>adZ fuel _ a' C' w' h1 h2) (h.2 i hi w hw)⟩
theorem aqf(hi:ops[i]?=some oi)(hsel:Region.noSelect ops=true)(hQ:∀c a d v w,Q (.panic c) (a.put d v) w→Q (.panic c) a w):
  ∀(fuel:Nat) (listed:Array Bool) (a:Act) (C:World→Prop),(∀w,C w→D w)→listed.size=ops.size→Dn ops listed→
   (∀j oj,ops[j]?=some oj→j≠i→listed.getD j true=false→(∀e∈oj.after,Region.binds .any e=true→e.on≠i)→oi.apart ops oj=true)→
   Df ops mt listed i=true→(EM oi=true∨Df ops mv listed i=true)→i∈Region.ready .any ops listed→YieldsIn P ops C oi v a→mf P ops mt mv Q D fuel (bR listed i) (a.put oi.dst v) C→mf P ops mt mv Q D (fuel+1) listed a C:=by
 intro fuel
 induction fuel with
 |zero=>
  intro listed a C pO hsz hD hfree hmt hnc hr hy H;refine⟨λh=>Dv,λj hj w' hw'=>?_⟩;by_cases hji:j=i
  ·subst hji;exact YieldsIn.op hi hy hw' λw2 h2=>⟨C,h2,pO,.inr λ_ h=>h,.inr rfl,H⟩
  ·have:=uS (md:=.any) hj hji;unfold bR at H;rw[H.1]at this;cases this
 |succ n ih=>
  intro listed a C pO hsz hD hfree hmt hnc hr hy H;refine⟨λh=>Dv,λj hj w' hw'=>?_⟩;by_cases hji:j=i
  ·subst hji;exact YieldsIn.op hi hy hw' λw2 h2=>⟨C,h2,pO,.inr λ_ h=>h,.inr rfl,H⟩
  ·have hir:=(yB.1 hr).1
   have hilt:i<listed.size:=by
    by_cases h:i<listed.size
    ·exact h
    ·exact aFD
   have hif:listed.getD i false=false:=Sb;have hjm:j∉mt:=NG hD hif hmt hj;have h1:=H.2 j (uS hj hji) w' hw';obtain⟨hjun,oj,hoj,hall⟩:=yB.1 hj
   have hnot:∀e∈oj.after,Region.binds .any e=true→e.on≠i:=λe he hb heq=>by
    have h2:=hall e he hb;rw[heq,hif]at h2;cases h2
   have h2:=Xt hoj (hfree j oj hoj hji hjun hnot) (λcs b=>CE hsel i oi cs b hi) (λcs b=>CE hsel j oj cs b hoj) hQ hy h1;refine Jw (λa' w'' h3=>?_) h2;obtain⟨h4,C',h5,hd,h6,yo,h7⟩:=h3;have hsub:∀w3,C' w3→C w3:=h6.resolve_left hjm;refine⟨C',h5,hd,h6,yo,ih (bR listed j) a' C' hd Sg (hD.set hj) ?_ (NF hmt) (hnc.imp id NF) (uS hr (Ay hji)) ?_ ?_⟩
   ·intro k ok hk hki hun hno;refine hfree k ok hk hki ?_ hno;by_cases hjk:j=k
    ·exact aFH
    ·exact aFI
   ·rcases h4 with⟨h8,h9⟩|h8
    ·refine .inl ⟨h8,λw3 hw3=>?_⟩;have h10:=h9 w3 (hsub w3 hw3);unfold Oper.quietAt at h10 ⊢;generalize hr3:(execOp a'.eval oi).run P w3=r at *
     cases r with
     |halt x w4=>simp only[Oper.quietUpon]at h10
     |ok n w4=>
      cases n<;>simp only[Oper.quietUpon]at h10 ⊢
      case value=>exact h10
      case skip=>exact h10
      case enter f args=>
       rcases hnc with hnc|hnc
       ·exact(NH hnc a'.eval P w3 f args w4 hr3).elim
       ·have:C'=C:=yo.resolve_left (NG hD hif hnc hj);rw[this];exact h10
    ·exact .inr h8
   ·unfold bR at h7 ⊢;rw[OA _ _ hji];exact h7
theorem aqd(hi:ops[i]?=some oi)(hsel:Region.noSelect ops=true)(hnc:EM oi=true)(hQ:∀c a d v w,Q (.panic c) (a.put d v) w→Q (.panic c) a w):
  ∀(fuel:Nat) (listed:Array Bool) (a:Act) (C:World→Prop),(∀w,C w→D w)→listed.size=ops.size→Dn ops listed→
   (∀j oj,ops[j]?=some oj→j≠i→listed.getD j true=false→(∀e∈oj.after,Region.binds .any e=true→e.on≠i)→oi.apart ops oj=true)→
   i∈Region.ready .any ops listed→YieldsIn P ops D oi v a→mf P ops mt mv Q D fuel (bR listed i) (a.put oi.dst v) C→mf P ops mt mv Q D (fuel+1) listed a C:=by
 have hall:∀ {a:Act} {C:World→Prop},(∀w,C w→D w)→YieldsIn P ops D oi v a→YieldsIn P ops C oi v a:=by
  intro a C pO hy;rcases hy with⟨h8,h9⟩|h8
  ·refine .inl ⟨h8,λw3 hw3=>?_⟩;have h10:=h9 w3 (pO w3 hw3);unfold Oper.quietAt at h10 ⊢;generalize hr3:(execOp a.eval oi).run P w3=r at *
   cases r with
   |halt x w4=>simp only[Oper.quietUpon]at h10
   |ok n w4=>
    cases n<;>simp only[Oper.quietUpon]at h10 ⊢
    case value=>exact h10
    case skip=>exact h10
    case enter f args=>exact(NH hnc a.eval P w3 f args w4 hr3).elim
  ·exact .inr h8
 intro fuel
 induction fuel with
 |zero=>
  intro listed a C pO hsz hD hfree hr hy H;refine⟨λh=>Dv,λj hj w' hw'=>?_⟩;by_cases hji:j=i
  ·subst hji;exact YieldsIn.op hi (hall pO hy) hw' λw2 h2=>⟨C,h2,pO,.inr λ_ h=>h,.inr rfl,H⟩
  ·have:=uS (md:=.any) hj hji;unfold bR at H;rw[H.1]at this;cases this
 |succ n ih=>
  intro listed a C pO hsz hD hfree hr hy H;refine⟨λh=>Dv,λj hj w' hw'=>?_⟩;by_cases hji:j=i
  ·subst hji;exact YieldsIn.op hi (hall pO hy) hw' λw2 h2=>⟨C,h2,pO,.inr λ_ h=>h,.inr rfl,H⟩
  ·have hir:=(yB.1 hr).1
   have hilt:i<listed.size:=by
    by_cases h:i<listed.size
    ·exact h
    ·exact aFD
   have hif:listed.getD i false=false:=Sb;have h1:=H.2 j (uS hj hji) w' hw';obtain⟨hjun,oj,hoj,hal⟩:=yB.1 hj
   have hnot:∀e∈oj.after,Region.binds .any e=true→e.on≠i:=λe he hb heq=>by
    have h2:=hal e he hb;rw[heq,hif]at h2;cases h2
   have h2:=Xt hoj (hfree j oj hoj hji hjun hnot) (λcs b=>CE hsel i oi cs b hi) (λcs b=>CE hsel j oj cs b hoj) hQ hy h1;refine Jw (λa' w'' h3=>?_) h2;obtain⟨h4,C',h5,hd,h6,yo,h7⟩:=h3;refine⟨C',h5,hd,h6,yo,ih (bR listed j) a' C' hd Sg (hD.set hj) ?_ (uS hr (Ay hji)) h4 ?_⟩
   ·intro k ok hk hki hun hno;refine hfree k ok hk hki ?_ hno;by_cases hjk:j=k
    ·exact aFH
    ·exact aFI
   ·unfold bR at h7 ⊢;rw[OA _ _ hji];exact h7
theorem MH(hsel:Region.noSelect ops=true)(hQ:∀c a d v w,Q (.panic c) (a.put d v) w→Q (.panic c) a w)(pO:∀w,C w→D w):∀(q:List Nat) (lq:List Oper) (listed:Array Bool) (a:Act),
  q.map (λi=>ops[i]?)=lq.map some→xu ops mt mv q listed=true→listed.size=ops.size→Dn ops listed→wpQuiet P ops C (λa'=>mf P ops mt mv Q D fuel (bM listed q) a' C) lq a→mf P ops mt mv Q D (fuel+q.length) listed a C
 |[],lq,listed,a,hm,hs,hz,hD,h=>by
  cases lq with
  |nil=>exact h
  |cons x xs=>simp at hm
 |i::q,lq,listed,a,hm,hs,hz,hD,h=>by
  cases lq with
  |nil=>simp at hm
  |cons o lq=>
   simp only[oG,oC]at hm;obtain⟨ho,hm⟩:=hm;simp only[xu,bW,ho]at hs;obtain⟨⟨⟨⟨hr,hf⟩,hmt⟩,hnc⟩,hs⟩:=hs;have hr':i∈Region.ready .any ops listed:=zK;have hq:qOp P ops C i (wpQuiet P ops C (λa'=>mf P ops mt mv Q D fuel (bM (bR listed i) q) a' C) lq) a:=SC;obtain⟨v,hy,hK⟩:=SX ho hq;have:=MH hsel hQ pO q lq (bR listed i) (a.put o.dst v) hm hs Si (hD.set hr') hK;exact aqf ho hsel hQ (fuel+q.length) listed a C pO hz hD (λj oj=>Qb ho hf j oj) hmt (by simpa using hnc) hr' hy this
theorem UH(hsel:Region.noSelect ops=true)(hQ:∀c a d v w,Q (.panic c) (a.put d v) w→Q (.panic c) a w)(pO:∀w,C w→D w):∀(q:List Nat) (lq:List Oper) (listed:Array Bool) (a:Act),
  q.map (λi=>ops[i]?)=lq.map some→oZ ops q listed=true→listed.size=ops.size→Dn ops listed→wpQuiet P ops D (λa'=>mf P ops mt mv Q D fuel (bM listed q) a' C) lq a→mf P ops mt mv Q D (fuel+q.length) listed a C
 |[],lq,listed,a,hm,hs,hz,hD,h=>by
  cases lq with
  |nil=>exact h
  |cons x xs=>simp at hm
 |i::q,lq,listed,a,hm,hs,hz,hD,h=>by
  cases lq with
  |nil=>simp at hm
  |cons o lq=>
   simp only[oG,oC]at hm;obtain⟨ho,hm⟩:=hm;simp only[oZ,bW,ho]at hs;obtain⟨⟨⟨hr,hf⟩,hnc⟩,hs⟩:=hs;have hr':i∈Region.ready .any ops listed:=zK;have hq:qOp P ops D i (wpQuiet P ops D (λa'=>mf P ops mt mv Q D fuel (bM (bR listed i) q) a' C) lq) a:=SC;obtain⟨v,hy,hK⟩:=SX ho hq;have:=UH hsel hQ pO q lq (bR listed i) (a.put o.dst v) hm hs Si (hD.set hr') hK;exact aqd ho hsel hnc hQ (fuel+q.length) listed a C pO hz hD (λj oj=>Qb ho hf j oj) hr' hy this
def rV(P:Program)(ops:Array Oper)(mt:List Nat)(D:World→Prop)(Q:Exit→Act→World→Prop):List (Nat×List Oper×Nat×Oper)→List Oper→Act→(World→Prop)→Prop
 |[],fin,a,C=>wpQuiet P ops C (λa'=>∀w',C w'→Q .normal a' w') fin a
 |(e,lq,m,o)::rest,fin,a,C=>wpQuiet P ops C (λa'=>∀w',C w'→wpList P ops (dU Q λa'' w''=>dV (mt.contains m) C w'' e∧(∀w,aO e w'' w→D w)∧rV P ops mt D Q rest fin a'' (aO e w'')) [o] a' w') lq a
theorem alJ(hsel:Region.noSelect ops=true)(hQ:∀c a d v w,Q (.panic c) (a.put d v) w→Q (.panic c) a w)(fin:List Nat)(lf:List Oper)(hf:fin.map (λi=>ops[i]?)=lf.map some):∀(p:Az) (lp:List (Nat×List Oper×Nat×Oper)) (listed:Array Bool) (a:Act) (C:World→Prop),(∀w,C w→D w)→
  p.map (λx=>(x.1,x.2.1.map (λi=>ops[i]?),x.2.2,ops[x.2.2]?))=lp.map (λx=>(x.1,x.2.1.map some,x.2.2.1,some x.2.2.2))→uQ ops mt mv p fin listed=true→listed.size=ops.size→Dn ops listed→
  rV P ops mt D Q lp lf a C→mf P ops mt mv Q D (iY p fin) listed a C
 |[],lp,listed,a,C,pO,hm,hB,hz,hD,h=>by
  cases lp with
  |cons x xs=>simp at hm
  |nil=>
   simp only[uQ,bW]at hB
   have:=MH (fuel:=0) (mt:=mt) (mv:=mv) (C:=C) hsel hQ pO fin lf listed a hf hB.1 hz hD (by
    refine(?_:wpQuiet P ops C (λa'=>mf P ops mt mv Q D 0 (bM listed fin) a' C) lf a)
    have e:(λa'=>mf P ops mt mv Q D 0 (bM listed fin) a' C)=(λa'=>∀w',C w'→Q .normal a' w'):=by
     funext a'
     simp only[kM,aay];exact⟨λh=>h.2,λh=>⟨WL,h⟩⟩
    rw[e];exact h)
   simpa[iY]using this
 |(e,q,m)::p,lp,listed,a,C,pO,hm,hB,hz,hD,h=>by
  cases lp with
  |nil=>simp at hm
  |cons x xs=>
   obtain⟨e',lq,m',o⟩:=x;simp only[oG,oC,yX]at hm;obtain⟨⟨rfl,hq,rfl,ho⟩,hm⟩:=hm;simp only[uQ,bW]at hB;obtain⟨⟨⟨hs,hr⟩,hv⟩,hB⟩:=hB;have hr:Region.ready .any ops (bM listed q)=[m]:=zK;have rE:=Dn.setL q hD hs;have rF:(bM listed q).size=ops.size:=(ww q listed).trans hz;have hmr:m∈Region.ready .any ops (bM listed q):=Ji
   have hb:=MH (fuel:=iY p fin+1) (mt:=mt) (mv:=mv) (C:=C) hsel hQ pO q lq listed a hq hs hz hD (by
    have e1:∀a',(∀w',C w'→wpList P ops (dU Q λa'' w''=>dV (mt.contains m) C w'' e∧(∀w,aO e w'' w→D w)∧rV P ops mt D Q xs lf a'' (aO e w'')) [o] a' w')→mf P ops mt mv Q D (iY p fin+1) (bM listed q) a' C:=by
     intro a' hl;refine⟨λh0=>Le,λj hj w' hw'=>?_⟩;rw[hr]at hj;obtain rfl:j=m:=Ls;have h1:=hl w' hw'
     have key:∀a2 w2,dU Q (λa'' w''=>dV (mt.contains j) C w'' e∧(∀w,aO e w'' w→D w)∧rV P ops mt D Q xs lf a'' (aO e w'')) .normal a2 w2→∃C',C' w2∧(∀w,C' w→D w)∧(j∈mt∨∀w,C' w→C w)∧(j∈mv∨C'=C)∧mf P ops mt mv Q D (iY p fin) (bR (bM listed q) j) a2 C':=by
      rintro a2 w2 ⟨h2,hd,h3⟩;exact⟨aO e w2,Qw e w2,hd,h2.imp aj id,.inl WM,alJ hsel hQ fin lf hf p xs _ _ _ hd hm hB Dz (rE.set hmr) h3⟩
     unfold wpOp;simp only[ho];simp only[wpList]at h1;by_cases hw:Region.wanted o (yielded ops a'.tmps)=true
     ·rw[aG hw]at h1 ⊢;rcases h1 with h1|⟨h1,h2⟩
      ·exact .inl (Uz (λa2 w2 h=>key a2 w2 h) (aFJ (Q:=Q) (λ_ _ _ h=>h) (λ⟨x,y,h⟩=>⟨x,y,h⟩) h1))
      ·exact .inr ⟨h1,let ⟨x,y,h⟩:=h2;⟨x,y,h⟩⟩
     ·rw[aD hw]at h1 ⊢;exact key _ _ h1
    have e2:∀(l:List Oper) (a:Act),wpQuiet P ops C (λa'=>∀w',C w'→wpList P ops (dU Q λa'' w''=>dV (mt.contains m) C w'' e∧(∀w,aO e w'' w→D w)∧rV P ops mt D Q xs lf a'' (aO e w'')) [o] a' w') l a→wpQuiet P ops C (λa'=>mf P ops mt mv Q D (iY p fin+1) (bM listed q) a' C) l a:=by
     intro l
     induction l with
     |nil=>exact λa h=>e1 a h
     |cons x l ih=>
      intro a h;unfold wpQuiet at h ⊢;split
      ·rename_i hw;rw[aG hw]at h;exact MF ih h
      ·rename_i hw;rw[aD hw]at h;exact ih _ h
    exact e2 lq a h)
   have:iY ((e,q,m)::p) fin=iY p fin+1+q.length:=rfl;rw[this];exact hb
theorem aBZ{l:List Oper}{w:World}(mt mv:List Nat)(e0:Nat)(pre:List Nat)(p:Az)(fin:List Nat)(l0:List Oper)(lp:List (Nat×List Oper×Nat×Oper))(lf:List Oper)
  (hB:(Region.noSelect l.toArray&&oZ l.toArray pre (Array.replicate l.toArray.size false)&&uQ l.toArray mt mv p fin (bM (Array.replicate l.toArray.size false) pre)&&decide (iY p fin+pre.length≤l.toArray.size))=true)
  (h0:pre.map (eX l)=l0.map some) (hp:p.map (λx=>(x.1,x.2.1.map (eX l),x.2.2,eX l x.2.2))=lp.map (λx=>(x.1,x.2.1.map some,x.2.2.1,some x.2.2.2))) (hf:fin.map (eX l)=lf.map some)
  (hQ:∀c a d v w,Q (.panic c) (a.put d v) w→Q (.panic c) a w) (hD0:∀w',aO (e0+1) w w'→D w') (h:wpQuiet P l.toArray D (λa'=>rV P l.toArray mt D Q lp lf a' (aO (e0+1) w)) l0 a):wpAny P .any l.toArray Q l.toArray.size (Array.replicate l.toArray.size false) a w.drew:=by
 have ha:eX l=λi=>l.toArray[i]?:=funext (MN l);rw[ha]at h0 hp hf;simp only[bW,dG]at hB
 have hw:aO (e0+1) w w.drew:=by
  cases e0
  ·exact⟨1,rfl⟩
  ·exact CB.iff.2 ⟨rfl,rfl,rfl,aV _,λ_ _=>rfl⟩
 have hDn:Dn l.toArray (Array.replicate l.toArray.size false):=by
  intro k o ho hk;have:k<l.toArray.size:=(nu.1 ho).1;simp[Array.getD]at hk this;omega
 have key:∀(ll:List Oper) (a:Act),wpQuiet P l.toArray D (λa'=>rV P l.toArray mt D Q lp lf a' (aO (e0+1) w)) ll a→wpQuiet P l.toArray D (λa'=>mf P l.toArray mt mv Q D (iY p fin) (bM (Array.replicate l.toArray.size false) pre) a' (aO (e0+1) w)) ll a:=by
  intro ll
  induction ll with
  |nil=>exact λa h=>alJ hB.1.1.1 hQ fin lf hf p lp _ a _ hD0 hp hB.1.2 ((ww _ _).trans aj) (Dn.setL0 pre hDn hB.1.1.2) h
  |cons x ll ih=>
   intro a h;unfold wpQuiet at h ⊢;split
   ·rename_i hw;rw[aG hw]at h;exact MF ih h
   ·rename_i hw;rw[aD hw]at h;exact ih _ h
 exact Xo hB.2 (adZ (mt:=mt) (mv:=mv) _ _ a _ _ hw (UH hB.1.1.1 hQ hD0 pre l0 _ a h0 hB.1.1.2 aj hDn (key l0 a h)))
section
variable {e m:Nat} {lq fin:List Oper} {o:Oper} {rest:List (Nat×List Oper×Nat×Oper)} {a:Act} {b:World}
theorem anZ(h:wpList P ops (dU Q λa'' w''=>dV (mt.contains m) (aO 0 b) w'' e∧(∀w,aO e w'' w→D w)∧rV P ops mt D Q rest fin a'' (aO e w'')) [o] a b):rV P ops mt D Q ((e,[],m,o)::rest) fin a (aO 0 b):=λw' hw=>Ij
theorem an0(h:wpQuiet P ops (λw'=>∃n,w'=b.drewN n) (λa'=>∀n,wpList P ops (dU Q λa'' w''=>dV (mt.contains m) (aO 1 b) w'' e∧(∀w,aO e w'' w→D w)∧rV P ops mt D Q rest fin a'' (aO e w'')) [o] a' (b.drewN n)) lq a):rV P ops mt D Q ((e,lq,m,o)::rest) fin a (aO 1 b):=by
 have e1:(λa'=>∀n,wpList P ops (dU Q λa'' w''=>dV (mt.contains m) (aO 1 b) w'' e∧(∀w,aO e w'' w→D w)∧rV P ops mt D Q rest fin a'' (aO e w'')) [o] a' (b.drewN n))=(λa'=>∀w',aO 1 b w'→wpList P ops (dU Q λa'' w''=>dV (mt.contains m) (aO 1 b) w'' e∧(∀w,aO e w'' w→D w)∧rV P ops mt D Q rest fin a'' (aO e w'')) [o] a' w'):=by
  funext a'
  exact propext ⟨λh w' ⟨n,hn⟩=>hn ▸ h n,λh n=>h _ ⟨n,rfl⟩⟩
 rw[e1]at h;exact h
theorem an1(h:wpQuiet P ops (λw'=>∃p:Regrown,w'=Sort.grow (redrawn b p.d) p.os) (λa'=>∀w',BL b w'→wpList P ops (dU Q λa'' w''=>dV (mt.contains m) (aO 2 b) w'' e∧(∀w,aO e w'' w→D w)∧rV P ops mt D Q rest fin a'' (aO e w'')) [o] a' w') lq a):rV P ops mt D Q ((e,lq,m,o)::rest) fin a (aO 2 b):=by
 have e1:(λa'=>∀w',BL b w'→wpList P ops (dU Q λa'' w''=>dV (mt.contains m) (aO 2 b) w'' e∧(∀w,aO e w'' w→D w)∧rV P ops mt D Q rest fin a'' (aO e w'')) [o] a' w')=(λa'=>∀w',aO 2 b w'→wpList P ops (dU Q λa'' w''=>dV (mt.contains m) (aO 2 b) w'' e∧(∀w,aO e w'' w→D w)∧rV P ops mt D Q rest fin a'' (aO e w'')) [o] a' w'):=by
  funext a'
  exact propext ⟨λh w' hw=>h w' (CB.iff.1 hw),λh w' hw=>h w' (CB.iff.2 hw)⟩
 rw[e1]at h;exact h
end
theorem anY{w:World}(h:Q .normal a w):rV P ops mt D Q [] [] a (aO 0 w):=λw' hw=>Ij
theorem sV{b w:World}{e:Nat}{bb:Bool}(hu:Up b w)(hd:∀w',Up w w'→D w')(h:K a w):dU Q (λa'' w''=>dV bb (aO (c+2) b) w'' e∧(∀w,aO e w'' w→D w)∧K a'' w'') .normal a w:=
 ⟨.inr λw' hw=>CB.iff.2 (hu.tr (Io hw)),λw' hw=>hd w' (Io hw),h⟩
theorem wD{w:World}{e:Nat}(bb:Bool)(hb:bb=true)(hd:∀w',Up w w'→D w')(h:K a w):dU Q (λa'' w''=>dV bb C w'' e∧(∀w,aO e w'' w→D w)∧K a'' w'') .normal a w:=⟨.inl hb,λw' hw=>hd w' (Io hw),h⟩
end
structure Tw(own:Nat→Prop)(b:World)where
 w:World
 t:aA own b w
instance{own:Nat→Prop}{b:World}:Nonempty (Tw own b):=⟨⟨b,aA.refl _ _⟩⟩
abbrev CT(own:Nat→Prop)(b:World):World→Prop:=λw'=>∃p:Tw own b,w'=p.w
theorem CT.of{own:Nat→Prop}{b:World}(h:aA own b w'):CT own b w':=⟨⟨w',h⟩,rfl⟩
theorem arh{own:Nat→Prop}{b:World}(p:Tw own b)(q o:Nat)(h:q<b.heap.size)(hn:¬own q):p.w.cell? ⟨q,o,none⟩=b.cell? ⟨q,o,none⟩:=iL (p.t.block q h hn)
theorem anU{n:Nat}{l:List Oper}{w:World}(D:World→Prop)(mt mv:List Nat)(e0:Nat)(pre:List Nat)(p:Az)(fin:List Nat)(l0:List Oper)(lp:List (Nat×List Oper×Nat×Oper))(lf:List Oper)(hD0:∀w',aO (e0+1) w w'→D w')(h:wpQuiet P l.toArray D (λa'=>rV P l.toArray mt D (iI Q) lp lf a' (aO (e0+1) w)) l0 a)(hF:oL F:=by first|exact jJ|exact E5 _)(hn:sK l.toArray=true:=by kernel_rfl)(hm:P.follows .mixedOrders=true:=by kernel_rfl)(hB:(Region.noSelect l.toArray&&oZ l.toArray pre (Array.replicate l.toArray.size false)&&uQ l.toArray mt mv p fin (bM (Array.replicate l.toArray.size false) pre)&&decide (iY p fin+pre.length≤l.toArray.size))=true:=by kernel_rfl)(h0:pre.map (eX l)=l0.map some:=by rfl)(hp:p.map (λx=>(x.1,x.2.1.map (eX l),x.2.2,eX l x.2.2))=lp.map (λx=>(x.1,x.2.1.map some,x.2.2.1,some x.2.2.2)):=by rfl)(hf:fin.map (eX l)=lf.map some:=by rfl)(hQ:∀c a d v w,Q (.panic c) (a.put d v) w→Q (.panic c) a w:=by intro _ _ d _ _ h;cases d<;>exact h):(Code.region id l.toArray true).wpIn F n P Q a w:=
 ad4 hm (Xn hF hn _ _ _ _ (aBZ mt mv e0 pre p fin l0 lp lf hB h0 hp hf (λc a d v w h=>hQ c a d v w h) hD0 h))
def I8(Q:Exit→Act→World→Prop):Exit→Act→World→Prop
 |.panic _,_,_=>False
 |e,a,w=>Q e a w
theorem Ou{n:Nat}{c:Code}{w:World}(h:c.wpIn F n P (I8 Q) a w):c.wpIn F n P Q a w:=
 SK h λe a w h=>by cases e<;>first|exact h|exact h.elim
def Cx(B off:Nat)(cs:List Value)(w:World):Prop:=B<w.heap.size∧∀j,j<cs.length→w.cell? ⟨B,off+j,none⟩=cs[j]?
theorem Cx.next{off:Nat}{w:World}(h:Cx B off cs w)(hb:BL w w'):Cx B off cs w':=
 ⟨nH h.1 hb.size,λj hj=>(hb.cell (p:=⟨B,off+j,none⟩) h.1).trans (h.2 j hj)⟩
theorem Cx.part{off n:Nat}{w:World}(h:Bx B cs w)(hv:(cs.drop off).take n=vs):Cx B off vs w:=
 ⟨h.lt,λj hj=>by
  rw[h.cell,←hv,List.getElem?_take,List.getElem?_drop];rw[←hv,oF]at hj
  rw[aG ae]⟩
theorem Cx.el{s:Shape α}{w:World}{b:Nat}{x:α}(hb:b<w.heap.size)(hr:s.reads (λ_=>True) w cs x)(h:∀j,j<s.n→w.cell? ⟨b,o+k*s.n+j,none⟩=cs[j]?):Cx b (o+k*s.n) cs w:=
 ⟨hb,λj hj=>h j (by rw[←s.len hr];exact hj)⟩
def LoadT(P:Program)(t n:Nat):Prop:=∃d,P.underlying t=some d∧d.isRow=true∧(P.info? t).map (·.size)=some n
theorem Cx.load{off t:Nat}{w:World}(h:Cx B off cs w)(hT:LoadT P t cs.length):(Instr.loadAt t (.pointer (some ⟨B,off,none⟩))).run P w=.ok (.agg cs.toArray) w:=by
 obtain⟨d,h1,h2,h3⟩:=hT;refine run_loadAt_mid w B off t cs d (λj v hv=>?_) h1 h2 h3;have hj:j<cs.length:=(gN.1 hv).1;rw[h.2 j hj,hv]
theorem bK:LoadT prog 30 9:=⟨_,underlying30,rfl,aF⟩
theorem gH:LoadT prog 65 24:=⟨_,underlying65,rfl,aF⟩
theorem fZ:LoadT prog 61 18:=⟨_,underlying61,rfl,aF⟩
theorem mV:LoadT prog 51 10:=⟨_,underlying51,rfl,aF⟩
section
variable {P:Program} {ops:Array Oper} {C:World→Prop} {a:Act} {o:Oper} {K:Act→Prop} {w b:World} {B off t:Nat} {x:Operand} {cs:List Value}
theorem Cx.whole(h:Bx B cs w):Cx B 0 cs w:=⟨h.lt,λj _=>by rw[oJ];exact h.cell j⟩
theorem bH{d:Option Nat}{pos:String}{g:Option (Nat×Bool)}{n:Nat}(hup:∀w',C w'→BL b w')(hT:LoadT P t n)(hx:a.eval x=.pointer (some ⟨B,off,none⟩))(hc:Cx B off cs b)(hn:cs.length=n)(hk:(Oper.mk d (.move (.const (.agg cs.toArray))) ty pos af g).quiet P a C K):(Oper.mk d (.load t x) ty pos af g).quiet P a C K:=by
 obtain⟨v,h1,h2⟩:=hk;subst hn;refine⟨_,λw hw=>?_,h2⟩;have h3:=h1 w hw;unfold Oper.quietAt execOp at h3 ⊢;simp only[hx,wU,(hc.next (hup w hw)).load hT,AB,Ke]at h3 ⊢;exact h3
theorem eH:∀w',(∃n,w'=b.drewN n)→BL b w':=by rintro _ ⟨n,rfl⟩;exact Bl.drewN (aB _ _) n
theorem eU:∀w',(∃p:Regrown,w'=Sort.grow (redrawn b p.d) p.os)→BL b w':=by rintro _ ⟨p,rfl⟩;exact Ih b p.d p.os
theorem dh{d:Option Nat}{pos:String}{n:Nat}(hT:LoadT P t n)(hx:a.eval x=.pointer (some ⟨B,off,none⟩))(hc:Cx B off cs w)(hn:cs.length=n)(h:wpList P ops Q (Oper.mk d (.move (.const (.agg cs.toArray))) ty pos af none::rest) a w):wpList P ops Q (Oper.mk d (.load t x) ty pos af none::rest) a w:=by
 subst hn;obtain⟨d',h1,h2,h3⟩:=hT;refine wpList_load_mid rfl t x rfl B off hx cs d' (λj v hv=>?_) h1 h2 h3 ?_
 ·have hj:j<cs.length:=(gN.1 hv).1;rw[hc.2 j hj,hv]
 ·have h':=h;unfold wpList at h';rcases h' with h'|h'
  ·exact h'
  ·have e0:((execOp a.eval (Oper.mk d (.move (.const (.agg cs.toArray))) ty pos af none)).runT P w #[]).2=#[]:=rfl;have h2:=h'.1.1;rw[e0]at h2;simp at h2
end
theorem Hid.get{p:Prop}(h:Hid p):p:=h.o
theorem AU{p:Prop}(h:p:=by first|assumption|(refine Hid.get ?_;assumption)|(apply Cx.whole;(repeat(first|assumption|(refine Hid.get ?_;assumption)|(refine Bx.new ?_;first|rfl|(simp;done))|(refine Bx.next ?_ ?_;rotate_left;(focus assumption))|refine Bx.alloc ?_ _|refine Bx.drewN ?_ _|refine Bx.drew ?_|(refine Bx.far ?_ ?_ _;rotate_left;(focus(simp;try omega)))|fail));done)|(apply Cx.part (n:=10);(focus((repeat(first|assumption|(refine Hid.get ?_;assumption)|(refine Bx.new ?_;first|rfl|(simp;done))|(refine Bx.next ?_ ?_;rotate_left;(focus assumption))|refine Bx.alloc ?_ _|refine Bx.drewN ?_ _|refine Bx.drew ?_|(refine Bx.far ?_ ?_ _;rotate_left;(focus(simp;try omega)))|fail));done));(conv=>lhs;simp only[List.drop_succ_cons,age,List.take_succ_cons,List.take_zero]);exact rfl)|fail):p:=h
theorem ag3(h:∀u∈cs,u.oneCell'=true):cs.toArray.all (·.oneCell')=true:=by
 rw[List.all_toArray];exact mq.2 h
section
variable {P:Program} {ops:Array Oper} {a:Act} {w:World} {cs:List Value} {z:Array Value} {t:TypeId}
theorem xA{p y:Operand}{ty':TypeId}{pos:String}{n:Nat}(hT:LoadT P ty n)(hx:a.eval p=.pointer (some ⟨B,0,none⟩))(hy:a.eval y=.agg cs.toArray)(hB:w.heap.size=B)(hz:z.size=n)(hn:cs.length=n)(h1:∀u∈cs,u.oneCell'=true)(h:wpList P ops Q rest a (w.alloc (.cells cs.toArray t))):wpList P ops Q (Oper.mk none (.store ty p y) ty' pos af none::rest) a (w.alloc (.cells z t)):=by
 obtain⟨_,_,_,h3⟩:=hT;subst hB;refine wpList_store_row rfl ty p y rfl w.heap.size cs.toArray hx hy t z (CZ _ _) (by rw[h3];simp[hn]) (by simp[hz,hn]) (ag3 h1) ?_;rw[World.setRow_alloc_new];exact h
theorem aB2{d:Option Nat}{t:TypeId}{pos:String}{parts:Array (Nat×Operand)}{vs:Array (Nat×Value)}(hb:∀W,(Instr.build t vs).run P W=.ok v W)(hp:(parts.map λ(i,x)=>(i,a.eval x))=vs)(h:wpList P ops Q rest (a.put d v) w):wpList P ops Q (Oper.mk d (.build t parts) ty pos af none::rest) a w:=by
 refine Jv rfl λ_ hK=>?_;unfold Oper.wp execOp;simp only[hp,wU,hb,AB];exact hK _ _ h
theorem aB6{d:Option Nat}{t:TypeId}{pos:String}(h:wpList P ops Q rest (a.put d (.map (some w.heap.size))) (w.alloc (.map #[] 0))):wpList P ops Q (Oper.mk d (.makeMap t none) ty pos af none::rest) a w:=by
 refine Jv rfl λ_ hK=>?_;unfold Oper.wp execOp;simp only[Option.map_none,wU,run_makeMap,AB];exact hK _ _ h
end
def dM(w:World)(x:aJ)(cs:List Value):Prop:=∃va vs vr,cs=dm x va vs vr∧UJ w x va vs vr
theorem dM.below{w:World}(h:dM w x cs)(hb:BL w w'):dM w' x cs:=by
 obtain⟨va,vs,vr,h1,h2⟩:=h;exact⟨va,vs,vr,h1,h2.below hb⟩
theorem nP{s:Shape α}{w:World}{xs:List α}(h:s.list.reads A w [v] xs):v.oneCell'=true:=by
 obtain⟨a,c,e,_⟩:=h;cases e;rfl
theorem dM.one{w:World}(h:dM w x cs):∀u∈cs,u.oneCell'=true:=by
 obtain⟨va,vs,vr,rfl,h2⟩:=h;have a:=nP h2.stas;have b:=nP h2.sheets;have c:=nP h2.reads;intro u hu;simp only[dm,mP,Ec,Bp]at hu;rcases hu with rfl|rfl|rfl|rfl|rfl|rfl|rfl|rfl|rfl<;>first|assumption|rfl
theorem dM.len{w:World}(h:dM w x cs):cs.length=9:=by
 obtain⟨va,vs,vr,rfl,_⟩:=h;rfl
def nW(w:World)(f:aQ)(cs:List Value):Prop:=Shape.fil.reads (λ_=>True) w cs f
theorem nW.below{w:World}(h:nW w f cs)(hb:BL w w'):nW w' f cs:=Shape.below (s:=Shape.fil) h hb
theorem nW.len{w:World}(h:nW w f cs):cs.length=24:=Shape.fil.len h
theorem Lr{s:vJ}{vb vs:Value}(h1:vt.oneCell'=true)(h2:vb.oneCell'=true)(h3:vr.oneCell'=true)(h4:vs.oneCell'=true):∀u∈iq s vt vb vr vs,u.oneCell'=true:=by
 intro u hu;simp only[iq,uR,gB,fE,mP,Ec,Bp]at hu;rcases hu with rfl|rfl|rfl|rfl|rfl|rfl|rfl|rfl|rfl|rfl|rfl|rfl|rfl|rfl|rfl|rfl|rfl|rfl<;>first|assumption|rfl
theorem nW.one{w:World}(h:nW w f cs):∀u∈cs,u.oneCell'=true:=by
 obtain⟨vt,vb,vr,vs,vm,vn,rfl,⟨h1,h2,h3,h4⟩,h5,h6⟩:=h;intro u hu;unfold iW at hu;rcases oH.1 hu with hu|hu
 ·simp only[mP,Ec,Bp]at hu;rcases hu with rfl|rfl|rfl|rfl<;>rfl
 ·rcases oH.1 hu with hu|hu
  ·exact Lr (nP h1) (nP h2) (nP h3) (nP h4) u hu
  ·simp only[mP,Ec,Bp]at hu;rcases hu with rfl|rfl
   ·exact nP h5
   ·exact nP h6
theorem CW{w:World}{a:Option Addr}{n:Nat}{xs:List aQ}(h:aC Shape.fil w (.slice a n c) xs)(hk:k<xs.length):∃b o cs,a=some ⟨b,o,none⟩∧b<w.heap.size∧nW w xs[k] cs∧Cx b (o+k*24) cs w:=by
 obtain⟨b,o,cs,h1,h2,h3,h4⟩:=h.at hk;exact⟨b,o,cs,h1,h2,h3,Cx.el h2 h3 h4⟩
def RN(vs:List Value)(o:Nat)(cs:List Value):List Value:=vs.take o++cs++vs.drop (o+cs.length)
theorem Wm(h:cs.length=vs.length):RN vs 0 cs=cs:=by
 simp only[RN,List.take_zero,fE,oJ,h,Zn,ow]
theorem ax9(h:o+cs.length≤vs.length)(j:Nat):(RN vs o cs)[j]?=if o≤j∧j<o+cs.length then cs[j-o]? else vs[j]?:=by
 unfold RN;have hl:(vs.take o).length=o:=Wx;rw[Zp,Zp];simp only[dn,hl];by_cases h1:j<o
 ·rw[aG ae,aG h1,aD ae,List.getElem?_take,aG h1]
 ·by_cases h2:j<o+cs.length
  ·rw[aG h2,aD h1,aG ⟨ae,h2⟩]
  ·rw[aD h2,aD ae,List.getElem?_drop]
   congr 1;omega
theorem size_setCells(b:Nat):∀(vs:List Value) (o:Nat) (w:World),(w.setCells b o vs).heap.size=w.heap.size
 |[],_,_=>rfl
 |v::r,o,w=>by rw[World.setCells,size_setCells b r (o+1)];simp[World.setCell]
theorem aA.setCells{own:Nat→Prop}{b:Nat}(hb:own b):∀(vs:List Value) (o:Nat) (w:World),aA own w (w.setCells b o vs)
 |[],_,w=>aA.refl _ w
 |v::r,o,w=>by
  rw[World.setCells];exact(aA.setCell own w ⟨b,o,none⟩ v hb).trans (aA.setCells hb r (o+1) _)
theorem Bx.cells{w:World}(h:Bx B vs w)(hc:o+cs.length≤vs.length):Bx B (RN vs o cs) (w.setCells B o cs):=by
 have hth:w.there B o cs.length:=λj hj=>⟨by rw[h.cell,di ae];rfl,h.free _⟩;refine⟨by rw[size_setCells];exact h.lt,λj=>?_,λj=>by rw[World.frozen?_setCells];exact h.free j⟩;rw[ax9 hc];by_cases hj:o≤j∧j<o+cs.length
 ·rw[aG hj];have:=World.cell?_setCells_in B cs o w (λi hi=>(hth i hi).1) (j-o) ae;rw[show o+(j-o)=j from ae]at this;rw[this];exact(di _).symm
 ·rw[aD hj,World.cell?_setCells_out B cs o w ⟨B,j,none⟩ (λ_ _=>ic),h.cell]
theorem SS{w:World}{p y:Operand}{ty':TypeId}{pos:String}{n:Nat}(hT:LoadT P ty n)(hx:a.eval p=.pointer (some ⟨B,o,none⟩))(hy:a.eval y=.agg cs.toArray)(hB:Bx B vs w)(hn:cs.length=n)(ho:o+n≤vs.length)(h1:∀u∈cs,u.oneCell'=true)(h:wpList P ops Q rest a (w.setCells B o cs)):wpList P ops Q (Oper.mk none (.store ty p y) ty' pos af none::rest) a w:=by
 obtain⟨_,_,_,h3⟩:=hT;refine wpList_store_mid rfl ty p y rfl B o cs.toArray hx hy (λj hj=>⟨by rw[hB.cell,di (by simp at hj;omega)];rfl,hB.free _⟩) (by rw[h3];simp[hn]) (ag3 h1) ?_;have e:cs.toArray.toList=cs:=aj;rw[e];exact h
theorem fold_at:∀(cs:List Value) (n:Nat) (z:Array Value) (j:Nat),n+cs.length≤z.size→((cs.zipIdx n).foldl (λa x=>a.setIfInBounds x.2 x.1) z)[j]?=if n≤j∧j<n+cs.length then cs[j-n]? else z[j]?
 |[],n,z,j,_=>ay5
 |c::cs,n,z,j,h=>by
  rw[Zx,xO,fold_at cs (n+1) _ j (by simp at h ⊢;omega)];by_cases h1:n+1≤j∧j<n+1+cs.length
  ·rw[aG h1,aG ads,show j-n=(j-(n+1))+1 from ae,bB]
  ·rw[aD h1];by_cases h2:j=n
   ·subst h2;rw[aG aj];simp at h;simp[show j<z.size from ae]
   ·exact aFA
theorem atc{z:Array Value}(h:cs.length=z.size):cs.zipIdx.foldl (λa x=>a.setIfInBounds x.2 x.1) z=cs.toArray:=by
 apply aec;intro j;rw[fold_at cs 0 z j ae];by_cases h1:j<cs.length
 ·rw[aG ae];simp
 ·rw[aD ae];rw[aed ae];simp;omega
theorem aB3{w:World}{d:Option Nat}{t:TypeId}{x:Operand}{pos:String}(hb:∀W,(Instr.buildSlice t 1 #[(0,.agg cs.toArray)]).run P W=.ok (.slice (some ⟨W.heap.size,0,none⟩) 1 1) (W.alloc (.cells cs.toArray e)))(hx:a.eval x=.agg cs.toArray)(h:wpList P ops Q rest (a.put d (.slice (some ⟨w.heap.size,0,none⟩) 1 1)) (w.alloc (.cells cs.toArray e))):wpList P ops Q (Oper.mk d (.buildSlice t 1 #[(0,x)]) ty pos af none::rest) a w:=by
 refine Jv rfl λ_ hK=>?_;unfold Oper.wp execOp;simp only[PY,oG,Av,hx,wU,hb,AB];exact hK _ _ h
theorem awK(hl:cs.length=24)(W:World):(Instr.buildSlice 27 1 #[(0,.agg cs.toArray)]).run prog W=.ok (.slice (some ⟨W.heap.size,0,none⟩) 1 1) (W.alloc (.cells cs.toArray 65)):=by
 have h:=atc (z:=#[.int .i64 0,.int .i64 0,.int .i64 0,.int .i64 0,.int .i64 0,.int .i64 0,.int .i64 0,.int .i64 0,.int .i64 0,.int .i64 0,.int .i64 0,.int .i64 0,.int .i64 0,.int .i64 0,.slice none 0 0,.slice none 0 0,.slice none 0 0,.slice none 0 0,.int .i64 0,.int .i64 0,.int .i64 0,.int .i64 0,.slice none 0 0,.slice none 0 0]) (cs:=cs) hl;simp[go_sem,hl,h]
section
attribute [local go_sem] Qv
theorem akZ{s:Shape α}{w:World}{x:α}{t:TypeId}(hr:s.reads (λ_=>True) w cs x)(hB:w.heap.size=B):aC s (w.alloc (.cells cs.toArray t)) (.slice (some ⟨B,0,none⟩) 1 1) [x]:=by
 subst hB;refine⟨_,1,rfl,aj,qN,λ_=>⟨w.heap.size,0,rfl,aj,trivial,λk hk=>⟨cs,?_,λj hj=>?_⟩⟩⟩
 ·have:k=0:=BC;subst this;exact Shape.below hr (Bl.alloc (aB _ _) _)
 ·have:k=0:=BC;subst this;rw[Nat.zero_mul,oI,oJ];exact(Bx.new (W:=w) (t:=t) (vs:=cs) rfl).cell j
def agb(l:List mo):Prop:=∀i j,i<j→j<l.length→(hgt l i).1<(hgt l j).1
theorem auG{l:List mo}(h:pR l=true):agb l∧1≤l.length∧l.length≤16∧(hgt l 0).1=0∧∀i,i<l.length→0≤(hgt l i).2.1∧(hgt l i).2.1≤(hgt l i).2.2∧(hgt l i).2.2≤4000:=by
 simp only[pR,bW,dG]at h;obtain⟨⟨h1,h2⟩,h3⟩:=h;have h4:=alR.1 h3
 have step:∀i,i+1<l.length→(hgt l i).1<(hgt l (i+1)).1:=λi hi=>by
  have:=h4 (i+1) hi;simp[kY]at this;exact this.1.1.1
 refine⟨?_,h1,h2,?_,?_⟩
 ·intro i j hij
  induction j with
  |zero=>omega
  |succ j ih=>
   intro hj;by_cases e:i=j
   ·subst e;exact step i hj
   ·exact Int.lt_trans (ih ae ae) (step j hj)
 ·have:=h4 0 ae;simp[kY]at this;exact this.1.1.1
 ·intro i hi;have:=h4 i hi;simp[kY]at this;omega
theorem atd{l:List mo}{week:Int}:∀(o:Sp),(∀h∈l,week<h.1)→l.foldl (λ(o:Sp) h=>if h.1≤week then h.2 else o) o=o:=by
 induction l with
 |nil=>intros;rfl
 |cons x xs ih=>
  intro o h;have hx:=h x aj;rw[xO,aD ae];exact ih o λy hy=>h y (by simp[hy])
theorem ajS{l:List mo}{week:Int}(hc:c<l.length)(h1:(hgt l c).1≤week)(h2:∀j,c<j→j<l.length→week<(hgt l j).1):zn l week=(hgt l c).2:=by
 unfold zn
 conv=>lhs;rw[←Zw (c+1) l]
 rw[Mv,jF hc,Mv];have e:l[c]=hgt l c:=(IM hc).symm;simp only[xO,List.foldl_nil];rw[e,aG h1];refine atd _ λh hh=>?_;obtain⟨j,hj,rfl⟩:=mr hh;have hlt:c+1+j<l.length:=by simp at hj;omega
 have:=h2 (c+1+j) ae hlt;rw[IM hlt]at this;simpa using this
theorem hcmp(a b c t:Int)(w:World):Calls prog 262 #[.agg #[a,b,c],t] w λe w'=>e=.returned (.int .i64 (xZ a t))∧BL w w':=by
 go_in;go_wp2_with (go_at_call 197;refine(compare _ _ _).mono ?_;rintro e w' ⟨rfl,rfl⟩)
 go_ret;exact⟨rfl,Bl.alloc (aB _ _) _⟩
theorem arQ{a t:Int}(h:a<t):xZ a t=-1:=aG h
theorem arR{a t:Int}(h:¬a<t):xZ a t=if t<a then 1 else 0:=aD h
theorem bsearch(v:Value)(l:List mo)(t:Int)(w:World)(hv:aC Shape.trip w v l)(hs:agb l)(hn:l.length≤16):
  Calls prog 261 #[v,t,.func (.func 262) #[] #[]] w λe w'=>
   ∃c:Nat,e=.returned (.tuple #[.int .i64 (c:Int),.bool (decide (c<l.length∧(hgt l c).1=t))])∧c≤l.length∧(∀j,j<c→(hgt l j).1<t)∧(∀j,c≤j→j<l.length→t≤(hgt l j).1)∧BL w w':=by
 obtain⟨a,cp,rfl,hc1,hc2⟩:=hv.shape;unfold maxLen at hc2;have HV:=U hv;clear hv;have HS:=U hs;clear hs;have he':∀(args:Array Value) (w:World),(callFunc 262 args).run prog w=.ok (.enter 262 args) w:=fo func262 aF rfl;go_in;go_wp2
 go_loopw [9,10] (λs9 s10 wr=>∃lo hi:Nat,s9=.int .i64 lo∧s10=.int .i64 hi∧lo≤hi∧hi≤l.length∧Hid ((∀j,j<lo→(hgt l j).1<t)∧(∀j,hi≤j→j<l.length→t≤(hgt l j).1))∧BL w wr) (λs9 s10 _=>(intOf s10-intOf s9).toNat)
 case atStart=>exact⟨0,l.length,rfl,rfl,ae,ae,U ⟨λj hj=>ae,λj h1 h2=>ae⟩,aB _ _⟩
 case round=>
  obtain⟨lo,hi,rfl,rfl,hlh,hin,HI,hb⟩:=hrel;by_cases hlt:lo<hi
  ·obtain⟨b,o,rfl,c1,c2,c3⟩:=(HV.o.below hb).trip_at (k:=(lo+hi) / 2) ae;have HE:=U (IM (l:=l) (k:=(lo+hi) / 2) ae);generalize l[(lo+hi) / 2]=x at *;obtain⟨x1,x2,x3⟩:=x;simp only at c1 c2 c3;have hcx:=U (λW=>hcmp x1 x2 x3 t W);by_cases hyx:x1<t
   ·have HC:=U (arQ hyx);go_wp2_with fail;refine((hcx.o _).mono λe w' h=>(⟨by rw[h.1,HC.o],h.2⟩:e=.returned (.int .i64 (-1))∧BL wr w')).mono ?_;rintro e w1 ⟨rfl,hb1⟩
    have HI2:Hid ((∀j,j<(lo+hi) / 2+1→(hgt l j).1<t)∧(∀j,hi≤j→j<l.length→t≤(hgt l j).1)):=U ⟨λj hj=>by
     have h0:(hgt l ((lo+hi) / 2)).1<t:=by rw[HE.o];exact hyx
     by_cases e:j=(lo+hi) / 2
     ·rw[e];exact h0
     ·exact Int.lt_trans (HS.o j ((lo+hi) / 2) ae ae) h0,HI.o.2⟩
    clear hyx;go_wp2;go_roundw
    case rel=>exact⟨(lo+hi) / 2+1,hi,aY,rfl,ae,hin,HI2,Bl.call hb hb1⟩
    case measure=>exact aFF
   ·have HC:Hid (∃n:Int,xZ x1 t=n∧0≤n):=U (by rw[arR hyx];split<;>exact⟨_,rfl,ae⟩);obtain⟨n,HN,hn0⟩:=HC.o;have HN:=U HN;have n1:decide (n<0)=false:=bC;go_wp2_with fail;refine((hcx.o _).mono λe w' h=>(⟨by rw[h.1,HN.o],h.2⟩:e=.returned (.int .i64 n)∧BL wr w')).mono ?_;rintro e w1 ⟨rfl,hb1⟩
    have HI2:Hid ((∀j,j<lo→(hgt l j).1<t)∧(∀j,(lo+hi) / 2≤j→j<l.length→t≤(hgt l j).1)):=U ⟨HI.o.1,λj h1 h2=>by
     have h0:t≤(hgt l ((lo+hi) / 2)).1:=by rw[HE.o];simpa using hyx
     by_cases e:j=(lo+hi) / 2
     ·rw[e];exact h0
     ·exact Int.le_of_lt (Int.lt_of_le_of_lt h0 (HS.o ((lo+hi) / 2) j ae h2))⟩
    clear hyx;go_wp2;go_roundw
    case rel=>exact⟨lo,(lo+hi) / 2,rfl,aY,ae,ae,HI2,Bl.call hb hb1⟩
    case measure=>exact aFF
  ·obtain rfl:hi=lo:=ae;by_cases hlt2:hi<l.length
   ·obtain⟨b,o,rfl,c1,c2,c3⟩:=(HV.o.below hb).trip_at hlt2;have HE:=U (IM hlt2);generalize l[hi]=x at *;obtain⟨x1,x2,x3⟩:=x;simp only at c1 c2 c3;obtain⟨n,HN⟩:∃n:Int,Hid (xZ x1 t=n):=⟨_,U rfl⟩
    have HF:Hid ((n==0)=decide (hi<l.length∧(hgt l hi).1=t)):=by
     rw[Hid,HE.o,←HN.o];unfold xZ;simp only[hlt2,Js];split
     ·exact bC
     ·split
      ·exact bC
      ·exact bC
    have hcx:=U (λW=>hcmp x1 x2 x3 t W);go_wp2_with fail;refine((hcx.o _).mono λe w' h=>(⟨by rw[h.1,HN.o],h.2⟩:e=.returned (.int .i64 n)∧BL wr w')).mono ?_;rintro e w1 ⟨rfl,hb1⟩;go_wp2;go_ret2;exact⟨hi,by rw[←HF.o];rfl,hin,HI.o.1,HI.o.2,Bl.call hb hb1⟩
   ·have HF:Hid (false=decide (hi<l.length∧(hgt l hi).1=t)):=by simp[Hid,hlt2]
    go_wp2;go_ret2;exact⟨hi,by rw[←HF.o];rfl,hin,HI.o.1,HI.o.2,hb⟩
def UE(l:List iC):Prop:=∀s∈l,jU [s]=(0,0)
theorem azC{l:List iC}{w:World}(hv:aC Shape.sta w v l)(h:Hid (jU l=(0,0))):Calls prog 104 #[v] w λe w'=>e=.returned (.tuple #[.int .i64 0,.int .i64 0])∧BL w w':=
 (adi v l w hv).mono λ_ _ ⟨h1,h2⟩=>⟨NY,h2⟩
theorem amr(v:Value)(l:List iC)(w:World)(hv:aC Shape.sta w v l)(hs:UE l)(hn:l.length≤1000):Calls prog 198 #[v] w λe w'=>e=.returned (.int .i64 0)∧BL w w':=by
 obtain⟨a,cp,rfl,hc1,hc2⟩:=hv.shape;have HV:=U hv;clear hv;have HS:=U (λk (h:k<l.length)=>hs l[k] (eu h));clear hs;go_in;go_wp2
 go_loopw [9] (λs9 wr=>∃k:Nat,k≤l.length∧s9=.int .i64 k∧BL w wr) (λs9 _=>l.length-(intOf s9).toNat)
 case atStart=>exact⟨0,ae,rfl,aB _ _⟩
 case round=>
  obtain⟨k,hk,rfl,hb⟩:=hrel;by_cases hlt:k<l.length
  ·have hs:=U (HS.o k hlt);obtain⟨b,o,u,rfl,c1,c2,c3,c4,hh⟩:=(HV.o.below hb).sta_at hlt;obtain⟨uo,un,uc,rfl⟩:∃uo un uc,u=.slice uo un uc:=by obtain⟨a,c,e,_⟩:=hh.shape;exact⟨_,_,_,e⟩
   have HL:Hid (Shape.sta.reads (λ_=>True) wr [.int .i64 l[k].1,.int .i64 l[k].2.1,.int .i64 l[k].2.2.1,.slice uo un uc] l[k]):=U (BD.2 ⟨_,rfl,hh⟩);clear hh;generalize l[k]=x at *;obtain⟨x1,x2,x3,x4⟩:=x;simp only at c1 c2 c3 c4 HL;have i1:(0:Int)≤(k:Int):=ae;have i2:(k:Int)<l.length:=ae;go_wp2_with fail;refine(azC (l:=[(x1,x2,x3,x4)]) (akZ (cs:=[.int .i64 x1,.int .i64 x2,.int .i64 x3,.slice uo un uc]) (Shape.below HL.o (Bl.alloc (aB _ _) _)) aj) hs).mono ?_;rintro e w1 ⟨rfl,hb1⟩;have B1:=Bl.call (Bl.alloc (Bl.alloc hb (.cells #[x1,x2,x3,.slice uo un uc] 85)) (.cells #[x1,x2,x3,.slice uo un uc] 85)) hb1;go_wp2;go_roundw
   case rel=>exact⟨k+1,ae,aY,B1⟩
   case measure=>exact aFF
  ·go_wp2;go_ret;exact⟨rfl,hb⟩
end
section
open Go.Maps
theorem WS:Keyed prog 195:=Keyed.of_law (deep_law (m:=5) aW aF aF aF)
def Sm(x:Int×Int×Int):Lit:=.string (keyBytes [.int .i64 x.1,.int .i64 x.2.1,.int .i64 x.2.2])
def Lx(x:Int×Int×Int):Value:=.agg #[x.1,x.2.1,x.2.2]
def Kh(x:Int×Int×Int):Prop:=(-1000000000≤x.1∧x.1≤1000000000)∧(-1000000000≤x.2.1∧x.2.1≤1000000000)∧(-1000000000≤x.2.2∧x.2.2≤1000000000)
theorem adX{n:Int}(h:-1000000000≤n∧n≤1000000000):(Lit.int .i64 n).wf=true:=WalkArith.wf_i64 ae
theorem Sl{x:Int×Int×Int}(hx:Kh x):keyOf prog 195 (Lx x)=some (Sm x):=by
 obtain⟨c,a,o⟩:=x;obtain⟨hc,ha,ho⟩:=hx;have hc:=adX hc;have ha:=adX ha;have ho:=adX ho;unfold Lx Sm;simp only at hc ha ho ⊢;have hk:(prog).keyType 195=true:=aF;have hi:(prog).underlying 3=some (.int .i64):=aF;have hs:(prog).cellsOf 195=3:=aF;have h1:(prog).cellsOf 3=1:=aF
 have hf:(Value.agg #[.int .i64 c,.int .i64 a,.int .i64 o]).formed prog 195=true:=by
  unfold Value.formed;rw[underlying195];simp only[hs];rfl
 obtain⟨m,hm⟩:∃m,(prog).types.size=m+1:=⟨(prog).types.size-1,aF⟩;unfold keyOf;rw[underlying195];simp only;rw[aG (by rw[hk,hf];rfl),hm];unfold Program.keyLits;rw[underlying195];simp only[Value.cells];simp[hs,h1,Program.keyLits,hi,hc,ha,ho]
theorem aAa{x y:Int×Int×Int}(hx:Kh x)(hy:Kh y)(h:Sm x=Sm y):x=y:=by
 have:=WS.inj (Sl hx) (h ▸ Sl hy);obtain⟨a,b,c⟩:=x;obtain⟨d,e,f⟩:=y;simp[Lx]at this;obtain⟨rfl,rfl,rfl⟩:=this;rfl
def jG(w:World)(B:Nat)(ss:List (Int×Int×Int)):Prop:=
 (∀x∈ss,Kh x)∧ss.Nodup∧∃D:DataW Unit,w.ownsMap prog 195 (plainElem prog 3) B ss.length D∧∀k,(h:k<ss.length)→D.atKey (Sm ss[k]) (.lit (.int .i64 0))=.lit (.int .i64 k)
theorem jG.lt{w:World}{ss:List (Int×Int×Int)}(h:jG w B ss):B<w.heap.size:=by
 obtain⟨_,_,D,h,_⟩:=h;exact h.lt
theorem jG.made(w:World):jG (w.alloc (.map #[] 0)) w.heap.size []:=
 ⟨aj,List.nodup_nil,.map [],World.ownsMap_made _ _ _ _,λk h=>by simp at h⟩
theorem jG.block{w:World}{ss:List (Int×Int×Int)}(h:jG w B ss)(hb:w'.heap[B]?=w.heap[B]?):jG w' B ss:=by
 obtain⟨h1,h2,D,⟨es,cl,e,r⟩,h4⟩:=h;exact⟨h1,h2,D,⟨es,cl,hb.trans e,r⟩,h4⟩
theorem jG.below{w:World}{ss:List (Int×Int×Int)}(h:jG w B ss)(hb:BL w w'):jG w' B ss:=h.block (hb.block B h.lt)
theorem jG.lookup{w:World}{ss:List (Int×Int×Int)}(h:jG w B ss)(hk:k<ss.length):
  (Instr.lookup 131 (.map (some B)) (Lx ss[k]) false).run prog w=.ok (.int .i64 k) w:=by
 obtain⟨h1,_,D,h3,h4⟩:=h;obtain⟨c,hrun,hat,_⟩:=h3.lookup_int WS underlying131 (by kernel_rfl:(prog).underlying 3=some (.int .i64)) aF (Sl (h1 _ (eu hk)));rw[h4 k hk]at hat;cases hat;exact hrun
theorem jG.update{w:World}{ss:List (Int×Int×Int)}(h:jG w B ss){x:Int×Int×Int}(hx:Kh x)(hn:x∉ss)(hl:ss.length≤1000000000000):
  ∃w',(Instr.mapUpdate 131 (.map (some B)) (Lx x) (.int .i64 ss.length)).run prog w=.ok () w'∧jG w' B (ss++[x])∧w.grownBy w' (some B):=by
 obtain⟨h1,h2,D,h3,h4⟩:=h;obtain⟨w',hr,ho,hg⟩:=h3.update WS underlying131 lD (Sl hx) (plainElem_int (H:=Unit) (P:=prog) (e:=3) (q:=.i64) aF (a:=(ss.length:Int)) (WalkArith.wf_i64 ae));refine⟨w',hr,⟨λy hy=>?_,?_,_,by rw[dn];exact ho,λk hk=>?_⟩,hg⟩
 ·rcases oH.1 hy with h|h
  ·exact h1 y h
  ·simp at h;subst h;exact hx
 ·refine List.nodup_append.2 ⟨h2,aj,λa ha b hb=>?_⟩;simp at hb;subst hb;exact λe=>hn (e ▸ ha)
 ·have hm:Maps.IsMap D:=by
   obtain⟨_,_,_,_,_,e⟩:=h3;exact⟨_,e⟩
  by_cases h:k<ss.length
  ·rw[Ul h,Maps.atKey_put_other,h4 k h];intro e;have:=aAa (h1 _ (eu h)) hx e;exact hn (this ▸ eu h)
  ·have hk':k=ss.length:=WK;subst hk';rw[List.getElem_concat_length rfl,Maps.atKey_put_same hm (WS.key (Sl hx))]
theorem aB5(w:World){o:Oper}
  (hg:o.guard=none) (m x v:Operand) (hop:o.op=Op.mapUpdate 131 m x v) (B:Nat) (ss:List (Int×Int×Int)) (y:Int×Int×Int)
  (hm:a.eval m=.map (some B)) (h:jG w B ss) (hx:a.eval x=Lx y) (n:Nat) (hv:a.eval v=.int .i64 n) (hn':n=ss.length) (hy:Kh y) (hn:y∉ss) (hl:ss.length≤1000000000000)
  (hK:∀w',jG w' B (ss++[y])→w.grownBy w' (some B)→wpList prog ops Q rest (a.put o.dst undef) w') :
  wpList prog ops Q (o::rest) a w:=by
 subst hn';refine Jv hg λK' hK'=>?_;obtain⟨w',hrun,r1,r2⟩:=h.update hy hn hl;unfold Oper.wp;simp[execOp,hop,hm,hx,hv,hrun,Result.andThen];exact hK' _ _ (hK w' r1 r2)
theorem jG.grown{w:World}{ss:List (Int×Int×Int)}{row:Option Nat}(h:jG w B ss)(hg:w.grownBy w' row)(hne:some B≠row):jG w' B ss:=h.block (hg.block B h.lt hne)
theorem jG.turns{w:World}{ss:List (Int×Int×Int)}{own:Nat→Prop}(h:jG w B ss)(t:aA own w w')(hn:¬own B):jG w' B ss:=h.block (t.block B h.lt hn)
theorem ayd{K:Act→Prop}{b:World}{d:Option Nat}{pos:String}{g:Option (Nat×Bool)}{m x:Operand}{M:Nat}{ss:List (Int×Int×Int)}{y:Int×Int×Int}
  (hup:∀w',C w'→BL b w') (hm:a.eval m=.map (some M)) (hx:a.eval x=Lx y) (h:jG b M ss) (hk:k<ss.length) (e:ss[k]=y) (hK:(Oper.mk d (.move (.const (.int .i64 k))) ty pos af g).quiet prog a C K):(Oper.mk d (.lookup 131 m x false) ty pos af g).quiet prog a C K:=by
 obtain⟨v,h1,h2⟩:=hK;subst e;refine⟨_,λw hw=>?_,h2⟩;have h3:=h1 w hw;unfold Oper.quietAt execOp at h3 ⊢;simp only[hm,hx,wU,(h.below (hup w hw)).lookup hk,AB,Ke]at h3 ⊢;exact h3
end
theorem aqR(hb:BL W w1):(∀b o,b<W.heap.size→w1.cell? ⟨b,o,none⟩=W.cell? ⟨b,o,none⟩)∧(∀b o,b<W.heap.size→w1.frozen? ⟨b,o,none⟩=W.frozen? ⟨b,o,none⟩):=
 ⟨λb o h=>hb.cell (p:=⟨b,o,none⟩) h,λb o h=>hb.frozen (p:=⟨b,o,none⟩) h⟩
def Ip(d:jD):Int:=if jQ d=true then 0 else 20
theorem aqz(p:α→Bool)(l:List α):l.any (λx=>!p x)=!l.all p:=by
 induction l with
 |nil=>rfl
 |cons x l ih=>simp[ih]
theorem asu{q1 q2:Bool}(h1:d.1.any (λs=>!xz s 1 40)=q1)(h2:d.2.any (λs=>!Jo d.1.length s)=q2):
  Ip d=if 1≤d.1.length∧d.1.length≤199∧d.2.length≤16∧q1=false∧q2=false then 0 else 20:=by
 rw[aqz]at h1 h2;subst h1 h2;unfold Ip jQ
 congr 1
 simp only[bW,dG,Bool.not_eq_false',and_assoc]
theorem aq8(w:World):ZH 223 #[] (λs=>!xz s 1 40) w:=by
 intro W x _;obtain⟨x,y⟩:=x;go_enter func223,ntmps223;go_wp2_with (go_at_call 224;refine(aap _ _ _ _ _).mono ?_;rintro e w' ⟨rfl,hbs⟩)
 go_ret;exact⟨rfl,ru hbs⟩
theorem aq9(w:World)(B:Nat)(a:Option Addr)(n c:Nat)(hc:w.cell? ⟨B,0,none⟩=some (.slice a n c))(hn:n≤1000000):Ef 225 #[.pointer (some ⟨B,0,none⟩)] (λs=>!Jo n s) w:=by
 intro W x hb;obtain⟨x,y,z⟩:=x;have hlt:=fe w _ hc;dsimp only at hlt;have hc2:=(hb.cell (p:=⟨B,0,none⟩) hlt).trans hc;have hlt2:=fe W _ hc2;dsimp only at hlt2;have hne:¬B=W.heap.size:=ae;go_enter func225,ntmps225;go_wp2_with (first|(go_at_call 226;refine(Qy _ _ _ _).mono ?_;rintro e w' ⟨rfl,rfl⟩)|(go_at_call 224;refine(aap _ _ _ _ _).mono ?_;rintro e w' ⟨rfl,hbs⟩)|fail)
 all_goals
  go_ret;exact⟨bu (by rw[DK];simp[Jo,dw,xz]at *;try omega),alX⟩
theorem Z8(vr vs:Value)(d:jD)(w:World)(hr:aC Shape.span w vr d.1)(hs:aC Shape.trip w vs d.2):
  Calls prog 164 #[.agg #[vr,vs]] w λe w'=>e=.returned (.int .i64 (Ip d))∧BL w w':=by
 obtain⟨a,c,rfl,hc1,hc2⟩:=hr.shape;obtain⟨b,m,rfl,hm1,hm2⟩:=hs.shape;unfold maxLen at hc2 hm2;obtain⟨q1,h1⟩:∃q,Hid (d.1.any (λs=>!xz s 1 40)=q):=⟨_,rfl⟩;obtain⟨q2,h2⟩:∃q,Hid (d.2.any (λs=>!Jo d.1.length s)=q):=⟨_,rfl⟩;have HE:=U (asu h1.o h2.o)
 have C1:Hid (∀W,BL w W→Calls prog 227 #[.slice a d.1.length c,.func (.func 223) #[] #[]] W λe w'=>e=.returned (.bool q1)∧BL W w'):=λW hb=>
  (ar6 _ d.1 _ _ _ W (hr.below hb) (fo func223 aF rfl) (aq8 W)).mono λe w' k=>⟨by rw[k.1,h1.o],k.2⟩
 have C2:Hid (∀W,BL w W→d.1.length≤1000000→W.cell? ⟨w.heap.size,0,none⟩=some (.slice a d.1.length c)→Calls prog 228 #[.slice b d.2.length m,.func (.func 225) #[] #[.pointer (some ⟨w.heap.size,0,none⟩)]] W λe w'=>e=.returned (.bool q2)∧BL W w'):=λW hb hn hc=>
  (ar7 _ d.2 _ _ _ W (hs.below hb) (fo func225 aF rfl) (aq9 W _ a _ c hc hn)).mono λe w' k=>⟨by rw[k.1,h2.o],k.2⟩
 clear h1 h2 hr hs;generalize d.1.length=n1 at *;generalize d.2.length=n2 at *;go_enter func164,ntmps164
 go_wp2_with (first
  |(go_at_call 226;refine(Qy _ _ _ _).mono ?_;rintro e w' ⟨rfl,rfl⟩)
  |(go_at_call 227;refine(C1.o _ (Bl.alloc (aB _ _) _)).mono ?_;rintro e w' ⟨rfl,hbs⟩;obtain⟨hcb,Nk⟩:=aqR hbs;have hbq:=ru hbs;have hcq:=(hbs.cell (p:=⟨w.heap.size,0,none⟩) aj).trans (Gg rfl);have hzb:=hbs.size;simp only[fH]at hzb;have hzl:w.heap.size<w'.heap.size:=ae)
  |(go_at_call 228;refine(C2.o _ hbq (by simp[dw]at *;omega) hcq).mono ?_;rintro e w' ⟨rfl,hbt⟩)
  |fail)
 all_goals
  go_ret;refine⟨gW ?_,alX⟩;rw[HE.o];clear HE C1 C2;cases q1<;>cases q2<;>(split<;>first|rfl|(exfalso;simp[dw]at *;done)|(exfalso;simp[dw]at *;omega))
theorem aw0{m:List xP}{q:Int}(h:fw (λx=>!EK d x) m=q):oO d m=if jQ d=true then(if 64<m.length then(2,0)else if 0≤q then(21,q)else(0,0))else(20,0):=by
 subst h;unfold oO fw;split
 ·split
  ·rfl
  ·cases m.findIdx? λx=>!EK d x<;>simp
 ·rfl
theorem ara(w:World)(B:Nat)(a b:Option Addr)(d:jD)(c m:Nat)(h0:w.cell? ⟨B,0,none⟩=some (.slice a d.1.length c))(h1:w.cell? ⟨B,1,none⟩=some (.slice b d.2.length m)):Ef 230 #[.pointer (some ⟨B,0,none⟩)] (λx=>!EK d x) w:=by
 intro W x hb;obtain⟨x,y,z⟩:=x;have hlt:=fe w _ h0;dsimp only at hlt;have c0:=(hb.cell (p:=⟨B,0,none⟩) hlt).trans h0;have c1:=(hb.cell (p:=⟨B,1,none⟩) hlt).trans h1;have hlt2:=fe W _ c0;dsimp only at hlt2;have hne:¬B=W.heap.size:=ae;have hn:(⟨B,0,none⟩:Addr).block<W.heap.size:=hlt2;unfold EK;generalize d.1.length=n1 at *;generalize d.2.length=n2 at *;go_enter func230,ntmps230;go_wp2_with (go_at_call 231;refine(asb _ _ _ _ _ _ _ _ _ _).mono ?_;rintro e w' ⟨rfl,hbs⟩)
 go_ret;exact⟨bu (by simp[Bool.not_and]),ru hbs⟩
theorem arO(vr vs vm:Value)(d:jD)(ms:List xP)(w:World)(hr:aC Shape.span w vr d.1)(hs:aC Shape.trip w vs d.2)(hm:aC Shape.trip w vm ms):
  Calls prog 165 #[.agg #[vr,vs],vm] w λe w'=>e=.returned (.tuple #[.int .i64 (oO d ms).1,.int .i64 (oO d ms).2])∧BL w w':=by
 obtain⟨a,c,rfl,hc1,hc2⟩:=hr.shape;obtain⟨b,m,rfl,hm1,hm2⟩:=hs.shape;obtain⟨a2,c2,rfl,hk1,hk2⟩:=hm.shape;unfold maxLen at hc2 hm2 hk2;obtain⟨q,hq⟩:∃q,Hid (fw (λx=>!EK d x) ms=q):=⟨_,rfl⟩;have HE:=U (aw0 hq.o);have HD:Hid (Ip d=if jQ d=true then 0 else 20):=U rfl;have HR:=U hr;have HS:=U hs;have HM:=U hm;clear hr hs hm;go_enter func165,ntmps165;go_wp2_with fail;refine(Z8 _ _ d _ (HR.o.below (Bl.alloc (aB _ _) _)) (HS.o.below (Bl.alloc (aB _ _) _))).mono ?_;rintro e w1 ⟨rfl,hb⟩;have h0:=(hb.cell (p:=⟨w.heap.size,0,none⟩) aj).trans (Gg (k:=0) rfl);have h1:=(hb.cell (p:=⟨w.heap.size,1,none⟩) aj).trans (Gg (k:=1) rfl);have B1:=U (ru hb);clear hb;cases hp:jQ d
 ·have HF:Hid (Ip d=20):=by rw[Hid,HD.o,hp];rfl
  have HG:Hid (oO d ms=(20,0)):=by rw[Hid,HE.o,hp];rfl
  rw[HF.o];clear hp;go_wp2;go_ret2;exact⟨by rw[HG.o];rfl,B1.o⟩
 ·have HF:Hid (Ip d=0):=by rw[Hid,HD.o,hp];rfl
  have HG:Hid (oO d ms=if 64<ms.length then(2,0)else if 0≤q then(21,q)else(0,0)):=by rw[Hid,HE.o,hp];rfl
  rw[HF.o];clear hp
  have CI:Hid (Calls prog 229 #[.slice a2 ms.length c2,.func (.func 230) #[] #[.pointer (some ⟨w.heap.size,0,none⟩)]] w1 λe w'=>e=.returned (.int .i64 q)∧BL w1 w'):=
   (akr _ ms _ _ _ w1 (HM.o.below B1.o) (fo func230 aF rfl) (ara w1 _ a b d c m h0 h1)).mono λe w' k=>⟨by rw[k.1,hq.o],k.2⟩
  by_cases h64:64<ms.length
  ·have g1:decide (64<ms.length)=true:=by simpa using h64
   have g2:decide ((64:Int)<(ms.length:Int))=true:=bC;have HG2:Hid (oO d ms=(2,0)):=by rw[Hid,HG.o,aG h64]
   clear h64;go_wp2;go_ret2;exact⟨by rw[HG2.o];rfl,B1.o⟩
  ·have g1:decide (64<ms.length)=false:=by simpa using h64
   have g2:decide ((64:Int)<(ms.length:Int))=false:=bC;have HG2:Hid (oO d ms=if 0≤q then(21,q)else(0,0)):=by rw[Hid,HG.o,aD h64]
   clear h64;go_wp2_with fail;refine CI.o.mono ?_;rintro e w2 ⟨rfl,hb⟩;have B2:=U (Bl.call B1.o hb);by_cases h3:0≤q
   ·have g3:decide (0≤q)=true:=EU;have Yl:Hid (oO d ms=(21,q)):=by rw[Hid,HG2.o,aG h3]
    clear h3;go_wp2;go_ret2;exact⟨by rw[Yl.o];rfl,B2.o⟩
   ·have g3:decide (0≤q)=false:=EU;have Yl:Hid (oO d ms=(0,0)):=by rw[Hid,HG2.o,aD h3]
    clear h3;go_wp2;go_ret2;exact⟨by rw[Yl.o];rfl,B2.o⟩
section
attribute [local go_sem] Qv
theorem asv(h:jQ d=true):Ip d=0:=aG h
def QE(c:Nat)(o:Sp)(s:Int×Sp):Sp:=if s.1=(c:Int)then(o.1+s.2.1,o.2+s.2.2)else o
theorem ast(h:jQ d=true)(hk:k<d.1.length):1≤d.1[k].1∧d.1[k].1≤d.1[k].2∧d.1[k].2≤40:=by
 simp only[jQ,bW,mq]at h;have:=h.1.2 _ (eu hk);simp only[xz,bW,dG]at this;omega
theorem ahW(h:jQ d=true)(hk:k<d.2.length):0≤d.2[k].1∧d.2[k].1≤(d.1.length:Int)-1∧0≤d.2[k].2.1∧d.2[k].2.1≤d.2[k].2.2∧d.2[k].2.2≤400:=by
 simp only[jQ,bW,mq]at h;have:=h.2 _ (eu hk);simp only[Jo,xz,bW,dG]at this;omega
theorem ahV(h:jQ d=true):1≤d.1.length∧d.1.length≤199∧d.2.length≤16:=by
 simp only[jQ,bW,dG]at h;omega
end
theorem aig{n:Nat}(hn:0<n):∀ {css:List (List Value)},(∀c∈css,c.length=n)→∀ {j:Nat} {u:Value},css.flatten[j]?=some u→∃h:j / n<css.length,css[j / n][j % n]?=some u
 |[],_,j,u,h=>by simp at h
 |c::css,hc,j,u,h=>by
  have hl:=hc c aj;rw[J6]at h;by_cases hj:j<n
  ·rw[PU ae]at h;have e1:j / n=0:=Nat.div_eq_of_lt hj;have e2:j % n=j:=Nat.mod_eq_of_lt hj;refine⟨by rw[e1];simp,?_⟩;simp only[e1,e2,Zq];exact h
  ·rw[PV ae,hl]at h;obtain⟨h1,h2⟩:=aig hn (λd hd=>hc d (Cv _ hd)) h
   have e1:j / n=(j-n) / n+1:=by
    rw[←Nat.add_div_right _ hn];congr 1;omega
   have e2:j % n=(j-n) % n:=by
    conv=>lhs;rw[show j=j-n+n from ae]
    rw[Nat.add_mod_right]
   refine⟨by rw[e1];simpa using h1,?_⟩;simp only[e1,e2,Hz];exact h2
theorem Shape.list_at{s:Shape α}{w:World}{a:Option Addr}{n:Nat}{xs:List α}(h:s.list.reads A w [.slice a n c] xs)(hk:k<xs.length):
  ∃b o cs,a=some ⟨b,o,none⟩∧b<w.heap.size∧A b∧s.reads A w cs xs[k]∧∀j,j<s.n→w.cell? ⟨b,o+k*s.n+j,none⟩=cs[j]?:=by
 obtain⟨a',c',h,h1,h2,h3⟩:=h;simp only[oC,qY,qZ]at h;obtain⟨rfl,rfl,rfl⟩:=h;obtain⟨b,o,e,hb,hA,hr⟩:=h3 ae;obtain⟨cs,g1,g2⟩:=hr k hk;exact⟨b,o,cs,e,hb,hA,g1,g2⟩
theorem Shape.raw{s:Shape α}(hs:0<s.n){w:World}{ad:Addr}{xs:List α}(hv:s.list.reads A w [.slice (some ad) xs.length c] xs):
  ∃css:List (List Value),css.length=xs.length∧(∀d∈css,d.length=s.n)∧(∀k,(h:k<xs.length)→(g:k<css.length)→s.reads A w css[k] xs[k])∧∀j u,css.flatten[j]?=some u→w.cell? (ad.add j)=some u:=by
 have hall:∀k:Nat,∃cs:List Value,(h:k<xs.length)→s.reads A w cs xs[k]∧∀j,j<s.n→w.cell? (ad.add (k*s.n+j))=cs[j]?:=by
  intro k;by_cases h:k<xs.length
  ·obtain⟨b,o,cs,e,_,_,hr,hc⟩:=Shape.list_at hv h;cases e;refine⟨cs,λ_=>⟨hr,λj hj=>?_⟩⟩;rw[←hc j hj]
   congr 1
   unfold Addr.add;by_cases h0:k*s.n+j=0
   ·have e1:o+k*s.n+j=o:=ae;rw[e1,h0];rfl
   ·rw[aD h0];simp only[S9,qZ,Js];omega
  ·exact⟨[],λg=>absurd g h⟩
 obtain⟨f,hf⟩:=Classical.axiomOfChoice hall
 have hlen:∀d∈(List.range xs.length).map f,d.length=s.n:=by
  intro d hd;obtain⟨k,hk,rfl⟩:=dz.1 hd;exact s.len (hf k (fD.1 hk)).1
 refine⟨(List.range xs.length).map f,aj,hlen,λk h g=>by simpa using(hf k h).1,λj u hj=>?_⟩;obtain⟨h1,h2⟩:=aig hs hlen hj;simp only[fC,H9]at h1;simp only[lK,rZ]at h2;have:=(hf _ h1).2 (j % s.n) (Nat.mod_lt _ hs);rw[h2]at this
 rwa[show j / s.n*s.n+j % s.n=j by rw[Nat.mul_comm];exact Nat.div_add_mod j s.n]at this
section
attribute [local go_sem] Qv
theorem lt_of_cell{w:World}{p:Addr}(h:w.cell? p=some u):p.block<w.heap.size:=by
 unfold World.cell? at h
 cases e:w.heap[p.block]? with
 |none=>rw[e]at h;simp at h
 |some o=>exact(nu.1 e).1
theorem avM:(prog.info? 207).map (λi=>(i.zero,i.size,i.bytes))=some (some (.agg #[.slice none 0 0,.slice none 0 0]),2,48):=aF
theorem arj{d:List Value}{x:dK}(h:(Shape.nod).reads (λ_=>True) W d x):∀u∈d,u.oneCell'=true:=by
 obtain⟨u,v,rfl,hu,hv⟩:=zz.1 h;obtain⟨a,c,rfl,_,_⟩:=(show aC Shape.span W u x.1 from Shape.list_far hu).shape;obtain⟨b,d,rfl,_,_⟩:=(show aC Shape.trip W v x.2 from Shape.list_far hv).shape;intro z hz;simp at hz;rcases hz with rfl|rfl<;>rfl
theorem ahx(v:Value)(xs:List (dK))(w:World)(A:Nat→Prop)(hv:(Shape.nod).list.reads A w [v] xs)(hl:xs.length≤1000000000):
  Calls prog 147 #[v] w λe w'=>∃v',e=.returned v'∧Own (Shape.nod) (λq=>A q∧q<w.heap.size) w' w.heap.size 207 v' xs∧BL w w':=by
 obtain⟨a,c,rfl,hc1,hc2⟩:=(Shape.list_far hv).shape;obtain⟨i0,hi,hz0,hz1,hz2⟩:=dY avM;have vM:=λ(w:World) (a:Option Addr) (n c n' c':Nat)=>vH (P:=prog) w 204 207 a n c n' c' underlying204;rcases a with _|ad
 ·have h0:xs=[]:=by
   rcases pJ xs.length with h|h
   ·exact jo h
   ·obtain⟨b,o,cs,e,_⟩:=Shape.list_at hv h;cases e
  subst h0;go_in;go_wp2;go_ret;exact⟨_,rfl,Own.nil,aB _ _⟩
 ·obtain⟨css,hcl,hcn,hcr,hcc⟩:=Shape.raw aW hv
  have HC:=U (λW (hW:BL w W) (j:Nat) (u:Value) (hj:css.flatten[j]?=some u)=>(hW.cell (p:=ad.add j) (by
   have:=hcc j u hj
   exact lt_of_cell this)).trans (hcc j u hj))
  have HL:Hid (css.flatten.length=xs.length*2):=U (by
   rw[←hcl];clear hcr hcc HC hcl
   induction css with
   |nil=>rfl
   |cons d css ih=>
    have e1:d.length=2:=hcn d aj
    rw[J6,dn,ih (λx hx=>hcn x (Cv _ hx)),dS,e1];omega)
  have HO:Hid (∀u∈css.flatten,u.oneCell'=true):=U (λu hu=>by
   obtain⟨d,hd,hu⟩:=Uq.1 hu;obtain⟨k,hk,rfl⟩:=mr hd
   exact arj ((Shape.nod).mono (hcr k ae hk) λ_ _ _=>trivial) u hu)
  have HR:=U hcr;have Ab:=U hcl;clear hcc hcn hcr hcl;generalize hnews:css.flatten=news at *;have HN:=U hnews;clear hnews hv;go_in;go_wp2_with (at_builtin;refine mH _ rfl _ _ 204 rfl w.heap.size 207 i0 (.agg #[.slice none 0 0,.slice none 0 0]) 2 48 underlying204 hi hz0 hz1 hz2 rfl aW _ _ _ rfl (F7 w #[] 0 (aV _) qN rfl) ad xs.length c news rfl HL.o (HC.o _ (Bl.alloc (aB _ _) _)) HO.o wh ae aj ?_;intro v' w4 hown' hgrow _)
  have hb4:=gJ (Bl.alloc (aB w.heap.size w) _) hgrow aj (λj hj=>Gf);go_ret;refine⟨_,rfl,⟨css,Ab.o,by rw[HN.o];have:=hown';simp only[oJ,fE]at this;exact this,λk hk g=>?_⟩,hb4⟩;have h1:=(Shape.nod).mono (A':=λq=>A q∧q<w.heap.size) (HR.o k hk g) λq hq h=>⟨h,hq⟩;have h2:=(Shape.nod).keep h1 (w':=w4) ⟨hb4.size,λq hq hl=>hb4.block q hl⟩;refine(Shape.nod).mono h2 λq hq ho=>⟨ho,λe=>?_⟩;have:=(hown'.lt q e.symm).1;have:=ho.2;omega
theorem avV:(prog.info? 204).map (λi=>(i.zero,i.size,i.bytes))=some (some (.slice none 0 0),1,24):=aF
theorem arl{d:List Value}{x:List dK}(h:(Shape.nod.list).reads (λ_=>True) W d x):∀u∈d,u.oneCell'=true:=by
 obtain⟨v,rfl,hv⟩:=EI.1 h;obtain⟨b,d,rfl,_,_⟩:=(show aC Shape.nod W v x from Shape.list_far hv).shape;intro z hz;simp at hz;subst hz;rfl
theorem ahy(v:Value)(xs:List (List dK))(w:World)(A:Nat→Prop)(hv:(Shape.nod.list).list.reads A w [v] xs)(hl:xs.length≤1000000000):
  Calls prog 146 #[v] w λe w'=>∃v',e=.returned v'∧Own (Shape.nod.list) (λq=>A q∧q<w.heap.size) w' w.heap.size 204 v' xs∧BL w w':=by
 obtain⟨a,c,rfl,hc1,hc2⟩:=(Shape.list_far hv).shape;obtain⟨i0,hi,hz0,hz1,hz2⟩:=dY avV;have vM:=λ(w:World) (a:Option Addr) (n c n' c':Nat)=>vH (P:=prog) w 137 204 a n c n' c' underlying137;rcases a with _|ad
 ·have h0:xs=[]:=by
   rcases pJ xs.length with h|h
   ·exact jo h
   ·obtain⟨b,o,cs,e,_⟩:=Shape.list_at hv h;cases e
  subst h0;go_in;go_wp2;go_ret;exact⟨_,rfl,Own.nil,aB _ _⟩
 ·obtain⟨css,hcl,hcn,hcr,hcc⟩:=Shape.raw aW hv
  have HC:=U (λW (hW:BL w W) (j:Nat) (u:Value) (hj:css.flatten[j]?=some u)=>(hW.cell (p:=ad.add j) (by
   have:=hcc j u hj
   exact lt_of_cell this)).trans (hcc j u hj))
  have HL:Hid (css.flatten.length=xs.length*1):=U (by
   rw[←hcl];clear hcr hcc HC hcl
   induction css with
   |nil=>rfl
   |cons d css ih=>
    have e1:d.length=1:=hcn d aj
    rw[J6,dn,ih (λx hx=>hcn x (Cv _ hx)),dS,e1];omega)
  have HO:Hid (∀u∈css.flatten,u.oneCell'=true):=U (λu hu=>by
   obtain⟨d,hd,hu⟩:=Uq.1 hu;obtain⟨k,hk,rfl⟩:=mr hd
   exact arl ((Shape.nod.list).mono (hcr k ae hk) λ_ _ _=>trivial) u hu)
  have HR:=U hcr;have Ab:=U hcl;clear hcc hcn hcr hcl;generalize hnews:css.flatten=news at *;have HN:=U hnews;clear hnews hv;go_in;go_wp2_with (at_builtin;refine mH _ rfl _ _ 137 rfl w.heap.size 204 i0 (.slice none 0 0) 1 24 underlying137 hi hz0 hz1 hz2 rfl aW _ _ _ rfl (F7 w #[] 0 (aV _) qN rfl) ad xs.length c news rfl HL.o (HC.o _ (Bl.alloc (aB _ _) _)) HO.o wh ae aj ?_;intro v' w4 hown' hgrow _)
  have hb4:=gJ (Bl.alloc (aB w.heap.size w) _) hgrow aj (λj hj=>Gf);go_ret;refine⟨_,rfl,⟨css,Ab.o,by rw[HN.o];have:=hown';simp only[oJ,fE]at this;exact this,λk hk g=>?_⟩,hb4⟩;have h1:=(Shape.nod.list).mono (A':=λq=>A q∧q<w.heap.size) (HR.o k hk g) λq hq h=>⟨h,hq⟩;have h2:=(Shape.nod.list).keep h1 (w':=w4) ⟨hb4.size,λq hq hl=>hb4.block q hl⟩;refine(Shape.nod.list).mono h2 λq hq ho=>⟨ho,λe=>?_⟩;have:=(hown'.lt q e.symm).1;have:=ho.2;omega
end
structure Hb(B:Nat)(vs:List Value)(t:TypeId)(w:World):Prop where
 o:w.heap[B]?=some (.cells vs.toArray t (0,0))
section
variable {B g:Nat} {vs us:List Value} {t:TypeId} {w w':World}
theorem Hb.lt(h:Hb B vs t w):B<w.heap.size:=(nu.1 h.o).1
theorem Hb.new(hB:W.heap.size=B):Hb B vs t (W.alloc (.cells vs.toArray t)):=⟨by subst hB;exact UK W _⟩
theorem Hb.next(h:Hb B vs t w)(hb:BL w w'):Hb B vs t w':=⟨(hb.block B h.lt).trans h.o⟩
theorem Hb.alloc(h:Hb B vs t w)(o:Obj):Hb B vs t (w.alloc o):=h.next (Bl.alloc (aB _ _) o)
theorem Hb.row(h:Hb B vs t w):Hb B us t (w.setRow B us.toArray):=⟨setRow_heap w B _ _ t _ h.o⟩
theorem Hb.far(h:Hb B vs t w)(hne:B≠g)(cs:Array Value):Hb B vs t (w.setRow g cs):=⟨(setRow_other w g B cs hne).trans h.o⟩
theorem Hb.bx(h:Hb B vs t w):Bx B vs w:=Bx.of h.o
theorem aA.setRow(own:Nat→Prop)(W:World)(g:Nat)(cs:Array Value)(h:own g):aA own W (W.setRow g cs):=⟨rfl,rfl,rfl,aj,λk _ hk=>setRow_other W g k cs λe=>hk (e ▸ h)⟩
theorem below_setRow{a:World}(h:BL a W)(hg:a.heap.size≤g)(cs:Array Value):BL a (W.setRow g cs):=aA.below h (aA.setRow (λk=>k=g) W g cs rfl) h.size λk e=>ae
end
theorem am8{mt:List Nat}{m:Nat}{p v:Operand}{ty':TypeId}{pos:String}{r:PO}(B:Nat)(vs us:List Value)(t:TypeId)
  (hp:a.eval p=.pointer (some ⟨B,0,none⟩)) (hv:a.eval v=.agg us.toArray) (hm:mt.contains m=true) (hi:(P.info? ty).map (·.size)=some us.toArray.size) (hs:vs.toArray.size=us.toArray.size) (h1:us.toArray.all (·.oneCell')=true) (hH:Hb B vs t W)
  (h:iJ P ops mt Q r (a.put none undef) (aO 0 (W.setRow B us.toArray))):iJ P ops mt Q (.one 0 [] m ⟨none,.store ty p v,ty',pos,af,none⟩ r) a (aO 0 W):=
 wG (wpList_store_row rfl ty p v rfl B us.toArray hp hv t vs.toArray hH.o hi hs h1 (show dU Q _ .normal _ _ from⟨.inl hm,h⟩))
structure Ap(t:TypeId)(z:List Value)(W0:World)(bs:List Nat)(W:World):Prop where
 bel:Below W0.heap.size W0 W
 nd:bs.Nodup
 ge:∀b∈bs,W0.heap.size≤b
 hb:∀b∈bs,Hb b z t W
section
variable {t:TypeId} {z us vs:List Value} {W0 W W':World} {bs:List Nat} {x y:Nat}
theorem Ap.nil(W0:World):Ap t z W0 [] W0:=⟨aB _ _,aj,aj,aj⟩
theorem Ap.next(h:Ap t z W0 bs W)(hb:BL W W'):Ap t z W0 bs W':=⟨Bl.call h.bel hb,h.nd,h.ge,λb k=>(h.hb b k).next hb⟩
theorem Ap.alloc(h:Ap t z W0 bs W):Ap t z W0 (W.heap.size::bs) (W.alloc (.cells z.toArray t)):=
 ⟨Bl.alloc h.bel _,List.nodup_cons.2 ⟨λk=>by have:=(h.hb _ k).lt;omega,h.nd⟩,λb k=>(mP.1 k).elim (λe=>e ▸ h.bel.size) (h.ge b),λb k=>(mP.1 k).elim (λe=>e ▸ Hb.new rfl) λk=>(h.hb b k).alloc _⟩
theorem Ap.two(h:Ap t z W0 bs W)(hx:x∈bs)(hy:y∈bs)(hne:x≠y):Bx x us ((W.setRow x us.toArray).setRow y vs.toArray)∧Bx y vs ((W.setRow x us.toArray).setRow y vs.toArray)∧BL W0 ((W.setRow x us.toArray).setRow y vs.toArray):=
 ⟨((h.hb x hx).row.far hne _).bx,((h.hb y hy).far (λe=>hne e.symm) _).row.bx,below_setRow (below_setRow h.bel (h.ge x hx) _) (h.ge y hy) _⟩
end
end Go.Proofs.YtfmckbjeofiegaaGreat
