/- Part 33 of a proof. -/
import Derived.Test.YtfmckbjeofiegaaGreatA32
set_option maxRecDepth 100000
set_option maxHeartbeats 16000000
set_option linter.all false
open Go Go.RowKit Go.Proofs.Tryz
namespace Go.Proofs.YtfmckbjeofiegaaGreat
variable {f:aQ}{L:List Sp}{c o q:Nat}{α:Type}{x:aJ}
section
attribute [local go_sem] Qv
theorem aCe(x:aJ)(cx:List Value)(ns nt:Int)(w:World)(hx:dM w x cx):Calls prog 8 #[.agg cx.toArray,ns,nt] w (ZI w):=(an7 x cx ns nt w hx).mono λ_ _ h=>h.1
end
theorem aqU(f:aQ):jW x f f=0:=by unfold jW Gd;rw[if_pos rfl]
theorem amS{m:Nat→Int}:F6 (gI x [f]) m↔∃v,Mem v (ko x f)∧(eZ v (lS x f)).1≤m 0∧m 0≤(eZ v (lS x f)).2:=by
 constructor
 ·intro h;exact h.mem 0 f rfl
 ·intro h;refine⟨λi g hg=>?_,λi k g g' hg hg'=>?_⟩
  ·cases i with
   |zero=>cases hg;exact h
   |succ i=>simp[gI]at hg
  ·cases i with
   |succ i=>simp[gI]at hg
   |zero=>
    cases k with
    |succ i=>simp[gI]at hg'
    |zero=>cases hg;cases hg';rw[aqU];omega
theorem amR{m:Nat→Int}(h:F6 x m):F6 (gI x (x.sheets.eraseIdx o)) λj=>if j<o then m j else m (j+1):=by
 have key:∀i f,(gI x (x.sheets.eraseIdx o)).sheets[i]?=some f→x.sheets[if i<o then i else i+1]?=some f:=by
  intro i f hf;have hf:(x.sheets.eraseIdx o)[i]?=some f:=hf;rw[agk]at hf;by_cases e:i<o
  ·rw[aG e]at hf ⊢;exact hf
  ·rw[aD e]at hf ⊢;exact hf
 have Gr:∀i,(if i<o then m i else m (i+1))=m (if i<o then i else i+1):=λi=>by split<;>rfl
 refine⟨λi f hf=>?_,λi k f g hf hg=>?_⟩
 ·have:=h.mem _ f (key i f hf);rw[Gr];exact this
 ·have:=h.wind _ _ f g (key i f hf) (key k g hg);rw[Gr,Gr];exact this
theorem anB{l:List aQ}(h:dA x=0)(hl:l.Sublist x.sheets):dA (gI x l)=0:=by
 rw[adW]at h ⊢;obtain⟨h1,h2,h3,h4,h5,h6,h7,⟨h8,h9⟩,h10⟩:=h;exact⟨h1,h2,h3,h4,h5,fK hl.length_le h6,h7,⟨λf hf=>h8 f (hl.subset hf),h9.sublist hl⟩,h10⟩
theorem aib{l:List aQ}(h:Fits x)(hl:l.Sublist x.sheets):Fits (gI x l):=λf hf=>h f (hl.subset hf)
section
variable {x:aJ} {f:aQ} (hx:fM x) (hfit:Fits x) {i:Nat} (hf:x.sheets[i]?=some f)
include hx hfit hf
theorem alh(hL:bF L):qx (xq x f L) (jO x f)=true:=by
 obtain⟨h1,h2⟩:=Bj hx hfit hf;have ht:=hx.term;refine Xm λk hk v hv=>?_;rw[Rz hx h1 h2 hL ae hk]at hv;rw[I5 hx h1 h2 hk];obtain⟨z,hz,c,hc,_,e⟩:=hv;exact⟨z,hz,c,hc,e⟩
theorem axk{v:Int}(hv:Mem v (ko x f)):aP (jO x f) 0≠[]:=by
 obtain⟨h1,h2⟩:=Bj hx hfit hf;have ht:=hx.term;unfold ko at hv;rw[I5 hx h1 h2 ae]at hv;obtain⟨z,hz,c,hc,_⟩:=hv;have hh:0<(jO x f).length:=by unfold jO;rw[Qz];omega
 have e1:aP (jO x f) 0=pV (aL x f) (bT x f f.station 0 [] true) 0:=by unfold aP;rw[List.getD_eq_getElem?_getD,List.getElem?_eq_getElem hh,Option.getD_some];exact aav hh
 rw[e1];intro e;have:=(I5 hx h1 h2 (st:=f.station) (term:=0) (within:=[]) (k:=0) ae (jS (aL x f) z c 0)).2 ⟨z,hz,c,hc,rfl⟩;rw[e]at this;exact gU _ this
theorem axj(hL:qH (gI x [f]) 0 L):qx (jO x f) (xq (gI x [f]) f L)=true∧qx (xq (gI x [f]) f L) (jO x f)=true:=by
 obtain⟨h1,h2⟩:=Bj hx hfit hf;have ht:=hx.term
 have hmem:∀v,Mem v L↔Mem v (ko x f):=by
  intro v;rw[GK (f:=f) rfl hL];constructor
  ·rintro⟨h,_⟩;exact h
  ·intro h;have hs:=ajT h1;have hv:=(acs hx h1 h2).2;obtain⟨s,hs',g1,g2⟩:=h;have:=hv s hs';have hse:=adj hs.1 hs.2.1 hs.2.2 (x:=v) ae ae;refine⟨⟨s,hs',g1,g2⟩,λ_=>(eZ v (lS x f)).1,amS.2 ⟨v,⟨s,hs',g1,g2⟩,oo _,hse.2.1⟩,oo _,hse.2.1⟩
 have e:xq (gI x [f]) f L=xq x f L:=rfl;rw[e];refine⟨Xm λk hk v hv=>?_,alh hx hfit hf hL.1⟩;rw[I5 hx h1 h2 hk]at hv;rw[Rz hx h1 h2 hL.1 ae hk];obtain⟨z,hz,c,hc,e⟩:=hv;refine⟨z,hz,c,hc,?_,e⟩;rw[hmem];unfold ko;rw[I5 hx h1 h2 ae];exact⟨z,hz,c,hc,rfl⟩
theorem axi{M:List Sp}(ho:o≠i)(hL:qH x i L)(hM:qH (gI x (x.sheets.eraseIdx o)) (if o<i then i-1 else i) M):qx (xq x f L) (xq (gI x (x.sheets.eraseIdx o)) f M)=true:=by
 obtain⟨h1,h2⟩:=Bj hx hfit hf;have ht:=hx.term
 have hat:(gI x (x.sheets.eraseIdx o)).sheets[if o<i then i-1 else i]?=some f:=by
  show(x.sheets.eraseIdx o)[if o<i then i-1 else i]?=some f
  rw[agk];by_cases e:o<i
  ·rw[aG e,aD ae,show i-1+1=i from ae];exact hf
  ·rw[aD e,aG ae];exact hf
 have e:xq (gI x (x.sheets.eraseIdx o)) f M=xq x f M:=rfl;rw[e];refine Xm λk hk v hv=>?_;rw[Rz hx h1 h2 hL.1 ae hk]at hv;rw[Rz hx h1 h2 hM.1 ae hk];obtain⟨z,hz,c,hc,hl,e⟩:=hv;refine⟨z,hz,c,hc,?_,e⟩;rw[GK hf hL]at hl;rw[GK hat hM];obtain⟨g1,m,g2,g3⟩:=hl;refine⟨g1,_,amR (o:=o) g2,?_⟩;by_cases e:o<i
 ·rw[aG e,aD ae,show i-1+1=i from ae];exact g3
 ·rw[aD e,aG ae];exact g3
end
section
attribute [local go_sem] Qv
theorem adB(w:World):(sizeOf (prog.elem 27)).run prog w=.ok 24 w:=aF
theorem aBp(x:aJ)(cx:List Value)(i:Nat)(f:aQ)(w:World)(hx:dM w x cx)(hf:x.sheets[i]?=some f):
  Calls prog 14 #[.agg cx.toArray,i] w λe w'=>∃Em,e=.returned (.agg Em.toArray)∧dM w' (gI x [f]) Em∧BL w w':=by
 have bE:=U hx.len;have Aj:=U hx.one;obtain⟨va,vs,vr,jR,hX⟩:=hx;obtain⟨kD,jI,rfl,hs1,hs2⟩:=hX.sheets.shape;unfold maxLen at hs2;have HX:=U hX;have hi:i<x.sheets.length:=(gN.1 hf).1;obtain⟨n,hn⟩:∃n:Nat,Hid (x.sheets.length=n):=⟨_,U rfl⟩;rw[hn.o]at jR hs1 hi;have jV:=U jR;have HF:=U hf;clear hX jR hf;have i0:(0:Int)≤(i:Int):=ae;have i2:(i:Int)<n:=ae;go_in;go_wp2_with (with_reducible_and_instances refine dI 6 ?_)
 have bg:=U ((Bx.new (W:=w) (t:=30) (vs:=cx) rfl).alloc (.cells #[.slice none 0 0,.int .i64 0,.int .i64 0,.int .i64 0,.int .i64 0,.int .i64 0,.int .i64 0,.slice none 0 0,.slice none 0 0] 30));have aX:=U (Bx.new (W:=w.alloc (.cells cx.toArray 30)) (B:=w.heap.size+1) (t:=30) (vs:=[.slice none 0 0,.int .i64 0,.int .i64 0,.int .i64 0,.int .i64 0,.int .i64 0,.int .i64 0,.slice none 0 0,.slice none 0 0]) aj);have HB0:=U (Bl.alloc (Bl.alloc (aB w.heap.size w) (.cells cx.toArray 30)) (.cells #[.slice none 0 0,.int .i64 0,.int .i64 0,.int .i64 0,.int .i64 0,.int .i64 0,.int .i64 0,.slice none 0 0,.slice none 0 0] 30));have hz0':((w.alloc (.cells cx.toArray 30)).alloc (.cells #[.slice none 0 0,.int .i64 0,.int .i64 0,.int .i64 0,.int .i64 0,.int .i64 0,.int .i64 0,.slice none 0 0,.slice none 0 0] 30)).heap.size=w.heap.size+2:=aj;have HZ0:=U hz0';clear hz0';generalize (w.alloc (.cells cx.toArray 30)).alloc (.cells #[.slice none 0 0,.int .i64 0,.int .i64 0,.int .i64 0,.int .i64 0,.int .i64 0,.int .i64 0,.slice none 0 0,.slice none 0 0] 30)=w0 at *;refine⟨?_⟩;have yJ:=U (Cx.whole bg.o)
 go_wp2_with (first|(refine dh bK rfl yJ.o bE.o ?_)|(refine xA bK rfl rfl rfl rfl bE.o Aj.o ?_;refine Stop.o ?_))
 have hbl:=Bl.alloc (aB w0.heap.size w0) (.cells cx.toArray 30);have aU:=U (Bx.new (W:=w0) (t:=30) (vs:=cx) HZ0.o);have bg:=U (bg.o.next hbl);have aX:=U (aX.o.next hbl);have HB1:=U (Bl.call HB0.o hbl);have hz1:w.heap.size+3≤(w0.alloc (.cells cx.toArray 30)).heap.size:=by rw[fH,HZ0.o];omega
 rw[HZ0.o];clear hbl HB0 yJ HZ0;generalize w0.alloc (.cells cx.toArray 30)=w1 at *;refine⟨?_⟩;have c7:w1.cell? ⟨w.heap.size,7,none⟩=some (.slice kD n jI):=(bg.o.cell 7).trans Wu;have d7:w1.cell? ⟨w.heap.size+2,7,none⟩=some (.slice kD n jI):=(aU.o.cell 7).trans Wu;have l2:=bg.o.lt;have l5:=aU.o.lt;have f5:=aU.o.free 7;obtain⟨b,o,cf,e1,hbl,hF,hC⟩:=CW HX.o.sheets (show i<x.sheets.length from iH);subst e1
 have hsl:∀w,(Instr.slice 27 (.slice (some ⟨b,o,none⟩) n jI) (some (.int .i64 (i:Int))) (some (.int .i64 ((i:Int)+1))) (some (.int .i64 ((i:Int)+1)))).run prog w=.ok (.slice (some ⟨b,o+i*24,none⟩) 1 1) w:=by
  intro w;have e1:((i:Int)+1).toNat=i+1:=ae;have e2:(i:Int).toNat=i:=ae;have q1:(i:Int)+1≤(jI:Int):=ae;have q2:(0:Int)≤(i:Int)+1:=ae;have r:=ama (P:=prog) w .i64 (i:Int) (i+1) .slice3C i0 (by push_cast;omega);rw[run_slice_any w 27 _ _ _ aF];simp[Instr.sliceBounds,ama,adB,sliced,r,e1,e2,q1,q2,i0,JB]
 have hfe:x.sheets[i]' iH=f:=by have:=HF.o;rw[gN]at this;exact this.2
 rw[hfe]at hF
 have HL:Hid (aC Shape.fil w (.slice (some ⟨b,o+i*24,none⟩) 1 1) [f]):=U ⟨_,1,rfl,aj,qN,λ_=>⟨b,o+i*24,rfl,hbl,trivial,λk hk=>by
  have hk0:k=0:=WK;subst hk0;refine⟨cf,hF,λj hj=>?_⟩;have:=hC.2 j (by rw[hF.len];exact hj)
  simpa using this⟩⟩
 clear hC hF hbl hfe;go_wp2_with (with_reducible_and_instances refine dI 16 ?_)
 have AX:=aU.o.set 7 (.slice (some ⟨b,o+i*24,none⟩) 1 1) Jh;have aX:=U (aX.o.far (p:=⟨w.heap.size+2,7,none⟩) aj (.slice (some ⟨b,o+i*24,none⟩) 1 1));have HB2:=U (Bl.setCell HB1.o (p:=⟨w.heap.size+2,7,none⟩) aj (.slice (some ⟨b,o+i*24,none⟩) 1 1));clear c7 d7 l2 l5 f5 hsl bg HB1;generalize w1.setCell ⟨w.heap.size+2,7,none⟩ (.slice (some ⟨b,o+i*24,none⟩) 1 1)=w2 at *;refine⟨?_⟩;obtain⟨D,hD⟩:=nm (cx.set 7 (.slice (some ⟨b,o+i*24,none⟩) 1 1));rw[hD.o]at AX;have Ye:Hid (D=dm (gI x [f]) va (.slice (some ⟨b,o+i*24,none⟩) 1 1) vr):=U (by rw[←hD.o,jV.o];rfl);have nC:Hid (D.length=9):=U (by rw[Ye.o];rfl);have wN:Hid (dM w2 (gI x [f]) D):=U ⟨va,_,vr,Ye.o,HX.o.stas.below HB2.o,HL.o.below HB2.o,HX.o.reads.below HB2.o⟩;have Ya:=U (Cx.whole AX);have hl4:=aX.o.lt;clear AX;go_wp2_with (first|(refine dh bK rfl Ya.o nC.o ?_)|(refine SS (B:=w.heap.size+1) (o:=0) bK rfl rfl aX.o nC.o aW wN.o.one ?_))
 have PI:=(aX.o.cells (o:=0) (cs:=D) RV).val (Wm (by rw[nC.o];rfl));obtain⟨ct,cg,hco⟩:=PI.obj RV;have hT:aA (λq=>q=w.heap.size+1) w2 (w2.setCells (w.heap.size+1) 0 D):=aA.setCells (own:=λq=>q=w.heap.size+1) rfl D 0 w2;have HB3:=aA.low HB2.o hT (λq e=>ae);refine kE (Lb results14 _ _ _ ct _ cg _ rfl hco underlying30 rfl aml) rfl ⟨D,rfl,⟨va,_,vr,Ye.o,HX.o.stas.below HB3,HL.o.below HB3,HX.o.reads.below HB3⟩,HB3⟩
end
theorem awW{s:Shape α}{w:World}{a:Option Addr}{n p:Nat}{xs:List α}(h:aC s w (.slice a n c) xs)(hp:p≤n):aC s w (.slice a p c) (xs.take p):=by
 obtain⟨a',c',e,h1,h2,h3⟩:=h;simp only[oC,qY,qZ]at e;obtain⟨rfl,rfl,rfl⟩:=e;have hl:(xs.take p).length=p:=Wx;refine⟨a,c,by rw[hl],ae,h2,λh0=>?_⟩;obtain⟨b,o,e,hb,hA,hr⟩:=h3 ae;refine⟨b,o,e,hb,hA,λk hk=>?_⟩;obtain⟨cs,g1,g2⟩:=hr k ae;exact⟨cs,by rw[List.getElem_take];exact g1,g2⟩
theorem azZ{b n p:Nat}(hc1:n≤c)(hp:p<n)(w:World):(Instr.slice 27 (.slice (some ⟨b,q,none⟩) n c) none (some (.int .i64 (p:Int))) none).run prog w=.ok (.slice (some ⟨b,q,none⟩) p c) w:=by
 have i0:(0:Int)≤(p:Int):=ae;have q1:(p:Int)≤(c:Int):=ae;have hc:¬c=0:=ae;rw[run_slice_any w 27 _ _ _ aF];simp[Instr.sliceBounds,ama,adB,sliced,q1,i0,JB,hc]
theorem azY{b n p:Nat}(hc1:n≤c)(hp:p<n)(w:World):(Instr.slice 27 (.slice (some ⟨b,q,none⟩) n c) (some (.int .i64 ((p:Int)+1))) none none).run prog w=.ok (.slice (if c=p+1 then some ⟨b,q,none⟩else some ⟨b,q+(p+1)*24,none⟩) (n-(p+1)) (c-(p+1))) w:=by
 have i4:(0:Int)≤(p:Int)+1:=ae;have i5:(p:Int)+1≤n:=ae;have e1:((p:Int)+1).toNat=p+1:=ae;rw[run_slice_l w 27 (some ⟨b,q,none⟩) n c aF .i64 ((p:Int)+1) i4 i5];simp only[adB,AB,sliced,e1,MG,JB]
theorem awR{w:World}{b n p:Nat}{xs:List aQ}(hn:xs.length=n)(h:aC Shape.fil w (.slice (some ⟨b,q,none⟩) n c) xs)(hc1:n≤c)(hc2:c≤maxLen)(hp:p<n):aC Shape.fil w (.slice (if c=p+1 then some ⟨b,q,none⟩else some ⟨b,q+(p+1)*24,none⟩) (n-(p+1)) (c-(p+1))) (xs.drop (p+1)):=by
 subst hn;by_cases e:c=p+1
 ·rw[aG e];have e2:xs.drop (p+1)=[]:=PS ae;have e3:xs.length-(p+1)=0:=ae;have e4:c-(p+1)=0:=ae;rw[e2,e3,e4];exact⟨_,0,rfl,aj,aj,aj⟩
 ·rw[aD e];have hl:(xs.drop (p+1)).length=xs.length-(p+1):=by rw[Cu]
  rw[←hl];exact Shape.drop h ae ae _ ae (by unfold maxLen at *;omega)
theorem asJ(xs:List α)(p:Nat):xs.take p++xs.drop (p+1)=xs.eraseIdx p:=(List.eraseIdx_eq_take_drop_succ xs p).symm
theorem ah4{w:World}{ad:Addr}{n:Nat}{xs:List aQ}(hn:xs.length=n)(h:aC Shape.fil w (.slice (some ad) n c) xs):
  ∃css:List (List Value),css.length=n∧css.flatten.length=n*24∧(∀u∈css.flatten,u.oneCell'=true)∧(∀k,(h:k<xs.length)→(g:k<css.length)→nW w xs[k] css[k])∧∀W,BL w W→∀j u,css.flatten[j]?=some u→W.cell? (ad.add j)=some u:=by
 subst hn;obtain⟨css,hcl,hcn,hcr,hcc⟩:=Shape.raw aW h;refine⟨css,hcl,?_,?_,hcr,λW hW j u hj=>?_⟩
 ·rw[←hcl];clear hcr hcc hcl
  induction css with
  |nil=>rfl
  |cons d css ih=>
   have e1:d.length=24:=hcn d aj;rw[J6,dn,ih (λx hx=>hcn x (Cv _ hx)),dS,e1];omega
 ·intro u hu;obtain⟨d,hd,hu⟩:=Uq.1 hu;obtain⟨k,hk,rfl⟩:=mr hd;exact nW.one (hcr k ae hk) u hu
 ·exact(hW.cell (p:=ad.add j) (by
   have:=hcc j u hj
   exact lt_of_cell this)).trans (hcc j u hj)
section
attribute [local go_sem] Qv
theorem aBT(x:aJ)(cx:List Value)(i o:Int)(w:World)(hx:dM w x cx):
  Calls prog 4 #[.agg cx.toArray,i,o] w (oK true w):=by
 have bE:=U hx.len;have Aj:=U hx.one;have bZ:=U hx;clear hx;go_in;go_wp2_with fail;have HX:=U (Bx.new (W:=w) (t:=30) (vs:=cx) rfl);have HB:=U (Bl.alloc (aB w.heap.size w) (.cells cx.toArray 30));generalize w.alloc (.cells cx.toArray 30)=w0 at *;refine(anz w0).mono ?_;rintro e w1 ⟨rfl,hb1⟩;have aZ:=U (HX.o.next hb1);have HB1:=U (Bl.call HB.o hb1);clear HX HB hb1;have HC:=U (Cx.whole aZ.o);go_wp2_with (refine dh bK rfl HC.o bE.o ?_)
 refine(aCe x cx 3 4 w1 (bZ.o.below HB1.o)).mono ?_;rintro e w2 ⟨⟨q,rfl⟩,hb2⟩;have bg:=U (aZ.o.next hb2);have HB2:=U (Bl.call HB1.o hb2);clear aZ HB1 hb2 HC
 cases q with
 |false=>
  go_wp2;go_ret;exact⟨bu rfl,HB2.o⟩
 |true=>
  have HC:=U (Cx.whole bg.o);go_wp2_with (refine dh bK rfl HC.o bE.o ?_)
  refine(Ju x cx i w2 (bZ.o.below HB2.o)).mono ?_;rintro e w3 ⟨hb3,hP⟩;have bP:=U (bg.o.next hb3);have HB3:=U (Bl.call HB2.o hb3);clear bg HB2 hb3 HC;have HC:=U (Cx.whole bP.o);rcases hP with⟨q,hq,-,rfl⟩|⟨v,l,hok,rfl,hl⟩
  ·have q1:((q:Int) != 0)=true:=Sk;clear hq;go_wp2_with (refine dh bK rfl HC.o bE.o ?_)
   refine(adQ x cx i w3 (bZ.o.below HB3.o)).mono ?_;rintro e w4 ⟨hb4,hP⟩;have bX:=U (Bl.call HB3.o hb4);clear hb4 HC bP HB3;rcases hP with⟨q',-,-,rfl⟩|⟨v,l,-,rfl,-⟩
   ·go_wp2;go_ret;exact⟨bu rfl,bX.o⟩
   ·go_wp2;go_ret;exact⟨bu rfl,bX.o⟩
  ·have HL:=U hl;obtain⟨h0,hfit,⟨sol,EC⟩,f,L,hi0,hf,hT,hle⟩:=hok;obtain⟨k,rfl⟩:∃k:Nat,i=k:=⟨i.toNat,ae⟩;rw[FQ]at hf hT;have HN:=U (And.intro h0 (And.intro hfit (And.intro EC (And.intro hf (And.intro hT hle)))));clear h0 hfit EC hf hT hle hi0 hl
   have HNA:Hid (Oz x k (jO x f)):=U (by
    obtain⟨h0,hfit,EC,hf,hT,hle⟩:=HN.o;obtain⟨v,hv,-⟩:=EC.mem k f hf
    exact⟨h0,f,ae,by rw[FQ];exact hf,(Bj (ma h0) hfit hf).2,axk (ma h0) hfit hf hv,rfl⟩)
   have BV:Hid (qx l (jO x f)=true):=U (by
    obtain⟨h0,hfit,EC,hf,hT,hle⟩:=HN.o
    rw[hle];exact alh (ma h0) hfit hf hT.1)
   go_wp2_with (refine dh bK rfl HC.o bE.o ?_)
   refine(adQ x cx k w3 (bZ.o.below HB3.o)).mono ?_;rintro e w4 ⟨hb4,hP⟩;have bX:=U (Bl.call HB3.o hb4);have aX:=U (bP.o.next hb4);have HL:=U (HL.o.below hb4);clear hb4 HC bP HB3;rcases hP with⟨q',-,hbad,rfl⟩|⟨vm,m,hm,rfl,hlm⟩
   ·exact absurd ⟨_,HNA.o⟩ hbad
   ·have hme:m=jO x f:=by
     obtain⟨-,f',-,hf',-,-,e⟩:=hm;rw[FQ,HN.o.2.2.2.1]at hf';cases hf';exact e
    subst hme;have wJ:=U hlm;clear hm hlm;obtain⟨m,hm⟩:=nm (jO x f);rw[hm.o]at wJ BV;go_wp2_with fail;refine(GR v vm l m w4 HL.o wJ.o).mono ?_;rintro e w5 ⟨rfl,hb5⟩;rw[BV.o];have eD:=U (Bl.call bX.o hb5);have aU:=U (aX.o.next hb5);have HL:=U (HL.o.below hb5);have wJ:=U (wJ.o.below hb5);clear hb5 bX aX;have HC:=U (Cx.whole aU.o);go_wp2_with (refine dh bK rfl HC.o bE.o ?_)
    refine(aBp x cx k f w5 (bZ.o.below eD.o) HN.o.2.2.2.1).mono ?_;rintro e w6 ⟨c1,rfl,hx1,hb6⟩;have dD:=U (Bl.call eD.o hb6);have bI:=U (aU.o.next hb6);have HL:=U (HL.o.below hb6);have wJ:=U (wJ.o.below hb6);have aZ:=U hx1;clear hb6 eD aU HC hx1;have afL:Hid (List.Sublist [f] x.sheets):=U (List.singleton_sublist.2 (qX HN.o.2.2.2.1))
    have Hd:Hid (∀l1,Eb (gI x [f]) 0 l1→qx m l1=true∧qx l1 m=true):=U (by
     obtain⟨h0,hfit,EC,hf,hT,hle⟩:=HN.o;rintro l1 ⟨-,-,-,f1,L1,-,hf1,hT1,rfl⟩
     have e:f1=f:=by
      have h:=hf1;simp[gI]at h;exact h.symm
     subst e;rw[←hm.o]
     exact axj (ma h0) hfit hf hT1)
    have O7:Hid (¬PQ (gI x [f]) 0):=U (by
     obtain⟨h0,hfit,EC,hf,hT,hle⟩:=HN.o;intro h;refine h ⟨anB h0 afL.o,⟨ae,by simp[gI]⟩,aib hfit afL.o,λ_=>sol k,?_⟩;rw[amS]
     exact EC.mem k f hf)
    go_wp2_with fail;refine(Ju (gI x [f]) c1 0 w6 aZ.o).mono ?_;rintro e w7 ⟨bV,hP⟩;have iy:=U (Bl.call dD.o bV);have bD:=U (bI.o.next bV);have HL:=U (HL.o.below bV);have wJ:=U (wJ.o.below bV);clear bV dD bI aZ;rcases hP with⟨q',-,hbad,rfl⟩|⟨v1,l1,hm1,rfl,hl1⟩
    ·exact absurd hbad O7.o
    ·have HWA:=U (Hd.o l1 hm1).1;have Cm:=U (Hd.o l1 hm1).2;have eO:=U hl1;clear hm1 hl1 Hd O7;go_wp2_with fail;refine(GR vm v1 m l1 w7 wJ.o eO.o).mono ?_;rintro e w8 ⟨rfl,bq⟩;rw[HWA.o];have cZ:=U (Bl.call iy.o bq);have qD:=U (bD.o.next bq);have HL:=U (HL.o.below bq);have wJ:=U (wJ.o.below bq);have eO:=U (eO.o.below bq);clear bq iy bD;go_wp2_with fail;refine(GR v1 vm l1 m w8 eO.o wJ.o).mono ?_;rintro e w9 ⟨rfl,dX⟩;rw[Cm.o];have gm:=U (Bl.call cZ.o dX);have fF:=U (qD.o.next dX);have HL:=U (HL.o.below dX);clear dX cZ qD eO wJ HWA Cm;obtain⟨va,vs,vr,jR,hR⟩:=bZ.o;obtain⟨aS,cS,rfl,hs1,hs2⟩:=hR.sheets.shape;unfold maxLen at hs2;have gy:=U jR;have gz:=U hR.sheets;have JW:=U hR;clear jR hR;obtain⟨n,hn⟩:=nm x.sheets.length;have Ac:=gy.o;have JO:=gz.o;rw[hn.o]at Ac JO hs1;replace gy:=U Ac;replace gz:=U JO;clear Ac JO;have c7:w9.cell? ⟨w.heap.size,7,none⟩=some (.slice aS n cS):=(fF.o.cell 7).trans lY;have l0:=fF.o.lt;by_cases a1:o<0
     ·have t:decide (o<0)=true:=by simpa using a1
      clear a1;go_wp2;go_ret;exact⟨bu rfl,gm.o⟩
     have t1:decide (o<0)=false:=by simpa using a1
     have A1:=U a1;clear a1;by_cases a2:(n:Int)≤o
     ·have t:decide ((n:Int)≤o)=true:=by simpa using a2
      clear a2;go_wp2;go_ret;exact⟨bu rfl,gm.o⟩
     have t2:decide ((n:Int)≤o)=false:=by simpa using a2
     have A2:=U a2;clear a2;by_cases a3:o=(k:Int)
     ·have t:(o==(k:Int))=true:=adt;have t':decide (o=(k:Int))=true:=adt;clear a3;go_wp2;go_ret;exact⟨bu rfl,gm.o⟩
     have t3:(o==(k:Int))=false:=adt;have t3':decide (o=(k:Int))=false:=adt;have A3:=U a3;clear a3;have HC:=U (Cx.whole fF.o);go_wp2_with (first|(refine dh bK rfl HC.o bE.o ?_)|(refine xA bK rfl rfl rfl rfl bE.o Aj.o ?_;refine Stop.o ?_))
     have hbl:=Bl.alloc (aB w9.heap.size w9) (.cells cx.toArray 30);have vD:=U (Bx.new (W:=w9) (t:=30) (vs:=cx) rfl);have HX0:=U (fF.o.next hbl);have HB0:=U (Bl.call gm.o hbl);have Yu:=U HL.o;have zY:=U hbl;obtain⟨p,rfl⟩:∃p:Nat,o=p:=⟨o.toNat,by have:=A1.o;omega⟩;have hp:p<n:=by have:=A2.o;omega
     have hpk:p≠k:=by have:=A3.o;omega
     have A8:=gm.o.size;have Mc:=U vD.o.lt;clear hbl gm fF HL c7 l0 t1 t2 t3 t3' HC;generalize w9.alloc (.cells cx.toArray 30)=w0 at *;obtain⟨bl,hbl⟩:∃b,Hid (w9.heap.size=b):=⟨_,U rfl⟩;rw[hbl.o]at vD A8 Mc ⊢;have J2:=U A8;clear A8;refine⟨?_⟩;obtain⟨sb,sq,cf,e1,hsb,-,-⟩:=CW (show aC Shape.fil w (.slice aS x.sheets.length cS) x.sheets by rw[hn.o];exact gz.o) (show p<x.sheets.length from iH);subst e1;have tO:=U (awW gz.o (show p≤n from ae));have HS2:=U (awR hn.o gz.o hs1 lD hp);have hsl1:=azZ (b:=sb) (q:=sq) hs1 hp;have hsl2:=azY (b:=sb) (q:=sq) hs1 hp;obtain⟨a2,ha2⟩:∃a,Hid ((if cS=p+1 then some (⟨sb,sq,none⟩:Addr)else some ⟨sb,sq+(p+1)*24,none⟩)=a):=⟨_,U rfl⟩;rw[ha2.o]at hsl2;have YU:=HS2.o;rw[ha2.o]at YU;replace HS2:=U YU;clear YU;have x7:w0.cell? ⟨w.heap.size,7,none⟩=some (.slice (some ⟨sb,sq,none⟩) n cS):=(HX0.o.cell 7).trans lY;have y7:w0.cell? ⟨bl,7,none⟩=some (.slice (some ⟨sb,sq,none⟩) n cS):=(vD.o.cell 7).trans lY;have lx:=HX0.o.lt;have ly:=vD.o.lt;have fy:=vD.o.free 7;obtain⟨ad2,rfl⟩:∃a,a2=some a:=by rw[←ha2.o];split<;>exact⟨_,rfl⟩
     obtain⟨ahM,c1l,f1,q1,r1,g1⟩:=ah4 (by rw[oF];have:=hn.o;omega) tO.o;obtain⟨ahN,c2l,f2,q2,r2,g2⟩:=ah4 (n:=n-(p+1)) (by rw[Cu];have:=hn.o;omega) HS2.o;have R1:=U r1;have R2:=U r2;clear r1 r2;obtain⟨n1,hn1⟩:∃z,Hid (ahM.flatten=z):=⟨_,U rfl⟩;obtain⟨n2,hn2⟩:∃z,Hid (ahN.flatten=z):=⟨_,U rfl⟩;rw[hn1.o]at f1 q1 g1;rw[hn2.o]at f2 q2 g2;have F1:=U f1;have O1:=U q1;have G1:=U g1;have C1:=U c1l;have F2:=U f2;have O2:=U q2;have G2:=U g2;have C2:=U c2l;clear f1 f2 q1 q2 g1 g2 c1l c2l;have hns:n≤1000:=by have:=(ma HN.o.1).sheets;have:=hn.o;omega
     obtain⟨i0,hi,hz0,hz1,hz2⟩:=dY abM;go_wp2;refine an3 [11,13] [0,5,11,13] 1 [1,3,6,8] (.one 2 [2,4,7,9,10] 0 (.one 0 [] 5 (.one 1 [] 11 (.one 0 [12] 13 (.fin []))))) [_,_,_,_] (.one 2 [_,_,_,_,_] 0 _ (.one 0 [] 5 _ (.one 1 [] 11 _ (.one 0 [_] 13 _ (.fin []))))) ?_
     (repeat(go_big_quiet_step (fail)))
     refine aH (uV ?_)
     (repeat(go_big_quiet_step (fail)));refine aH ?_
     intro wa dQ;go_wp2;refine dZ (Bl.alloc dQ (.cells #[] 65)) (uV (aH ?_));intro wb hbb;have hg0:wb.heap[wa.heap.size]?=some (.cells #[] 65 (0,0)):=(hbb.block _ aj).trans (CZ wa _);have kN:=U (Bl.call HB0.o dQ);have cB:=U (Bl.call (Bl.alloc kN.o (.cells #[] 65)) hbb);have Cm:=U (Bl.call (Bl.alloc dQ (.cells #[] 65)) hbb);obtain⟨bs,hbs⟩:∃z,Hid (wa.heap.size=z):=⟨_,U rfl⟩
     have VU:w.heap.size≤bs∧w0.heap.size≤bs∧bs≤wb.heap.size:=by
      have h1:=kN.o.size;have h2:=dQ.size;have h3:=hbb.size;rw[fH]at h3;have:=hbs.o;omega
     rw[hbs.o]at hg0 ⊢;have Ea:=U VU;clear VU;go_wp2_with (at_builtin;go_loud (refine anV _ rfl _ _ 27 rfl bs 65 i0 (.agg #[.int .i64 0,.int .i64 0,.int .i64 0,.int .i64 0,.int .i64 0,.int .i64 0,.int .i64 0,.int .i64 0,.int .i64 0,.int .i64 0,.int .i64 0,.int .i64 0,.int .i64 0,.int .i64 0,.slice none 0 0,.slice none 0 0,.slice none 0 0,.slice none 0 0,.int .i64 0,.int .i64 0,.int .i64 0,.int .i64 0,.slice none 0 0,.slice none 0 0]) 24 288 underlying27 hi hz0 hz1 hz2 rfl bs hg0 (aV _) rfl ⟨sb,sq,none⟩ p cS n1 rfl F1.o (G1.o wb cB.o) O1.o lD ae ?_);intro v8 w8 eB bq)
     refine dZ (Up.tr hbb bq) (wG ?_);obtain⟨a8,k8,rfl⟩:=bv eB;have lU:bs≤w8.heap.size:=by have:=Ea.o;have:=bq.size;omega
     go_wp2_with (at_builtin;go_loud (refine mH _ rfl _ _ 27 rfl bs 65 i0 (.agg #[.int .i64 0,.int .i64 0,.int .i64 0,.int .i64 0,.int .i64 0,.int .i64 0,.int .i64 0,.int .i64 0,.int .i64 0,.int .i64 0,.int .i64 0,.int .i64 0,.int .i64 0,.int .i64 0,.slice none 0 0,.slice none 0 0,.slice none 0 0,.slice none 0 0,.int .i64 0,.int .i64 0,.int .i64 0,.int .i64 0,.slice none 0 0,.slice none 0 0]) 24 288 underlying27 hi hz0 hz1 hz2 rfl aW _ _ _ rfl eB ad2 (n-(p+1)) (cS-(p+1)) n2 rfl F2.o (G2.o w8 (Bl.call cB.o bq)) O2.o lD ae lU ?_);intro v9 w9 gT kX _)
     obtain⟨a9,k9,rfl⟩:=bv gT;refine bS _ rfl (adL ?_)
     (repeat(go_big_quiet_step (fail)));refine aH ?_
     intro nq;have gm:=U (Bl.drewN (gJ (Bl.call cB.o bq) kX (by have:=Ea.o;omega) (λj hj=>at1)) nq);have Al:=U (Bl.drewN (gJ (Bl.call Cm.o bq) kX (by have:=Ea.o;omega) (λj hj=>at1)) nq);have mJ:=U (vD.o.next Al.o);have mK:=U (jB gT nq);clear eB gT kX bq hbb hg0 Cm cB kN dQ vD HX0 y7 x7 ly lx fy lU hsl1 hsl2;generalize w9.drewN nq=w9 at *;have y7:w9.cell? ⟨bl,7,none⟩=some (.slice (some ⟨sb,sq,none⟩) n cS):=(mJ.o.cell 7).trans lY;have ly:=mJ.o.lt;have fy:=mJ.o.free 7;go_wp2;refine bS _ rfl (LF ?_);obtain⟨v9,hv9⟩:∃v,Hid (Value.slice a9 (p+(n-(p+1))) k9=v):=⟨_,U rfl⟩;rw[hv9.o]at mK ⊢;have M9:=mJ.o.set 7 v9 Jh;have eD:=U (Bl.setCell gm.o (p:=⟨bl,7,none⟩) (by have:=J2.o;exact this) v9)
     have hL5:aC Shape.fil (w9.setCell ⟨bl,7,none⟩ v9) v9 (x.sheets.eraseIdx p):=by
      rw[←asJ];refine KW (s:=Shape.fil) (e:=65) (w0:=w) (base:=bs) (cs:=ahM) (ds:=ahN) (m:=p+(n-(p+1))) ?_ ?_ ?_ ?_ R1.o R2.o eD.o Ea.o.1
      ·rw[hn1.o,hn2.o];exact oU mK.o (p:=⟨bl,7,none⟩) (by show bl<bs;have:=Mc.o;have:=Ea.o;omega) v9
      ·rw[oF,Cu];have:=hn.o;omega
      ·rw[C1.o,oF];have:=hn.o;omega
      ·rw[C2.o,Cu];have:=hn.o;omega
     have BS:=U (Yu.o.below (Bl.setCell (Bl.call zY.o Al.o) (p:=⟨bl,7,none⟩) (by have:=hbl.o;exact ME this) v9));have Vs:dM (w9.setCell ⟨bl,7,none⟩ v9) (gI x (x.sheets.eraseIdx p)) (cx.set 7 v9):=⟨va,v9,vr,lY,JW.o.stas.below eD.o,hL5,JW.o.reads.below eD.o⟩
     have HKEY:Hid (∀at':Int,at'=(if p<k then(k:Int)-1 else(k:Int))→¬PQ (gI x (x.sheets.eraseIdx p)) at'∧∀l2,Eb (gI x (x.sheets.eraseIdx p)) at' l2→qx l l2=true):=U (by
      obtain⟨h0,hfit,EC,hf,hT,hle⟩:=HN.o;intro at' e;have hkn:k<n:=by have:=(gN.1 hf).1;have:=hn.o;omega
      have hsub:(x.sheets.eraseIdx p).Sublist x.sheets:=List.eraseIdx_sublist x.sheets p;have hen:(x.sheets.eraseIdx p).length=n-1:=by rw[List.length_eraseIdx_of_lt iH];have:=hn.o;omega
      have hto:at'.toNat=if p<k then k-1 else k:=by
       rw[e];split<;>omega
      have hat:(x.sheets.eraseIdx p)[at'.toNat]?=some f:=by
       rw[hto,agk];by_cases e:p<k
       ·rw[aG e,aD ae,show k-1+1=k from ae];exact hf
       ·rw[aD e,aG ae];exact hf
      have hlt:=(gN.1 hat).1;have h0a:0≤at':=by rw[e];split<;>omega
      refine⟨λh=>h ⟨anB h0 hsub,⟨h0a,?_⟩,aib hfit hsub,_,amR EC⟩,?_⟩
      ·show at'<((x.sheets.eraseIdx p).length:Nat);omega
      ·rintro l2 ⟨-,-,-,f2,L2,-,hf2,yu,rfl⟩
       have ef:f2=f:=by
        have h:(x.sheets.eraseIdx p)[at'.toNat]?=some f2:=hf2;rw[hat]at h;cases h;rfl
       subst ef;rw[hto]at yu;rw[hle]
       exact axi (ma h0) hfit hf hpk hT yu)
     obtain⟨D,hD⟩:=nm (cx.set 7 v9);rw[hD.o]at M9 Vs;have Me:=U M9;have Ps:=U Vs;have nC:=U Vs.len;clear M9 Vs hL5 gm Al mJ mK y7 ly fy R1 R2 F1 F2 O1 O2 G1 G2 C1 C2 tO HS2 ha2 Ea hv9;generalize w9.setCell ⟨bl,7,none⟩ v9=wz at *;have HC:=U (Cx.whole Me.o)
     have hk9:(k:Int)≤1000:=by
      have h1:=(gN.1 HN.o.2.2.2.1).1;have h2:=hn.o;omega
     have hk0:(0:Int)≤(k:Int):=ae;by_cases aj9:(p:Int)<(k:Int)
     ·have t:decide ((p:Int)<(k:Int))=true:=by simpa using aj9
      have HK:=U (HKEY.o ((k:Int)-1) (by rw[aG ae]));clear HKEY;go_wp2_with (refine dh bK rfl HC.o nC.o ?_)
      refine(Ju (gI x (x.sheets.eraseIdx p)) D ((k:Int)-1) wz Ps.o).mono ?_;rintro e wy ⟨hby,hP⟩;have yI:=U (Bl.call eD.o hby);have Mc:=U (BS.o.below hby);clear hby eD HC;rcases hP with⟨q',-,hbad,rfl⟩|⟨v2,l2,hm2,rfl,hl2⟩
      ·exact absurd hbad HK.o.1
      ·have mM:=U (HK.o.2 l2 hm2);have HL2:=U hl2;clear hm2 hl2;go_wp2_with fail;refine(GR v v2 l l2 wy Mc.o HL2.o).mono ?_;rintro e wx ⟨rfl,hbx⟩;rw[mM.o];have gq:=U (Bl.call yI.o hbx);clear hbx;go_wp2;go_ret;exact⟨bu rfl,gq.o⟩
     ·have t:decide ((p:Int)<(k:Int))=false:=by simpa using aj9
      have HK:=U (HKEY.o (k:Int) amn);clear HKEY;go_wp2_with (refine dh bK rfl HC.o nC.o ?_)
      refine(Ju (gI x (x.sheets.eraseIdx p)) D (k:Int) wz Ps.o).mono ?_;rintro e wy ⟨hby,hP⟩;have yI:=U (Bl.call eD.o hby);have Mc:=U (BS.o.below hby);clear hby eD HC;rcases hP with⟨q',-,hbad,rfl⟩|⟨v2,l2,hm2,rfl,hl2⟩
      ·exact absurd hbad HK.o.1
      ·have mM:=U (HK.o.2 l2 hm2);have HL2:=U hl2;clear hm2 hl2;go_wp2_with fail;refine(GR v v2 l l2 wy Mc.o HL2.o).mono ?_;rintro e wx ⟨rfl,hbx⟩;rw[mM.o];have gq:=U (Bl.call yI.o hbx);clear hbx;go_wp2;go_ret;exact⟨bu rfl,gq.o⟩
end
end Go.Proofs.YtfmckbjeofiegaaGreat
