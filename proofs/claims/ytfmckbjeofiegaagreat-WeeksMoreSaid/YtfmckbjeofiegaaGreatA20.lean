/- Part 20 of a proof. -/
import Derived.Test.YtfmckbjeofiegaaGreatA16
import Derived.Test.YtfmckbjeofiegaaGreatA17
set_option maxRecDepth 100000
set_option maxHeartbeats 16000000
set_option linter.all false
open Go Go.RowKit Go.Proofs.Tryz
namespace Go.Proofs.YtfmckbjeofiegaaGreat
variable {vs:List Value}{base j k:Nat}{T:aT}{α:Type}{v:Value}
section
attribute [local go_sem] Qv
theorem arG(B:Nat)(vs:List Value)(vg:Value)(gaps:List Sp)(ticks band:Int)(w:World)(hX:Bx B vs w)(h1:vs[22]?=some vg)(h2:vs[20]?=some (.int .i64 ticks))(h3:vs[14]?=some (.int .i64 band))(hg:aC Shape.span w vg gaps)
  (hb:∀g∈gaps,0≤g.2∧g.2≤1000000) (ht:0≤ticks) (hl:gaps.length≤1000) (hd:0≤band∧band≤8) :
  Calls prog 111 #[.pointer (some ⟨B,0,none⟩)] w λe w'=>e=.returned (.bool (decide (4000<((eY gaps ticks).length:Int)*(2*band+1))))∧BL w w':=by
 have H:=U (arN B vs vg gaps ticks band w hX h1 h2 h3 hg hb ht hl hd);rw[awv (λg hg=>(hb g hg).1) ht]at H;generalize ((eY gaps ticks).length:Int)*(2*band+1)=n at *;clear hX hg h1 h2 h3 hb;go_in;go_wp2_with fail;refine H.o.mono ?_;rintro e w1 ⟨rfl,hb1⟩;go_wp2;go_ret;exact⟨bu aj,hb1⟩
theorem UT(h:ib T)(k:Nat):∀l∈iD T k,Us l:=by
 intro l hl;obtain⟨n,hn,rfl⟩:=mr hl;have e:(iD T k)[n]=aP (iD T k) n:=by simp[aP,bN,hn]
 rw[e];have hn2:n<(aN T k).length:=by simpa[iD]using hn
 have e2:aP (iD T k) n=inter (aP (iG T k) n) (aP (nK T (T.length-1-k)) n):=by
  rw[iD];simp[aP,bN,hn2]
 have h1:=M5 h.trk k n;have h2:=Qs h.trk (T.length-1-k) n;have h3:=Be h1 h2;rw[e2];refine⟨h3,λs hs=>?_⟩;have hv:=h3.1 s hs
 have hm:∀v,Mem v (inter (aP (iG T k) n) (aP (nK T (T.length-1-k)) n))→0≤v∧v≤12000:=λv hm=>by
  obtain⟨u,hu,h5,h6⟩:=aiq h.trk (Bd.1 hm).1;have:=h.al k n u hu;omega
 have m1:=hm s.1 ⟨s,hs,ae,hv⟩;have m2:=hm s.2 ⟨s,hs,hv,ae⟩;omega
theorem ab0{ss:List dx}{sets:List (List Sp)}{zero:Int}(h:∀l∈sets,Us l):∀k,(uM ss sets zero k).length≤40001*k
 |0=>by simp[uM]
 |k+1=>by
  rw[akL,dn];have h1:=ab0 h (ss:=ss) (zero:=zero) k
  have h2:(aP sets k).length≤40001:=by
   unfold aP;rw[bN]
   cases e:sets[k]? with
   |none=>simp
   |some l=>exact awZ (h l (qX e))
  simp only[gF,fC];omega
theorem cat(C:Nat)(vs:List Value)(v6 vt:Value)(ss:List dx)(T:aT)(k:Nat)(zero:Int)(w:World)(hX:Bx C vs w)(h6:vs[23]?=some v6)(hs:aC Shape.trip w v6 ss)(ht:aC Shape.nod.list w vt T)(hT:ib T)(hk:k<T.length)
  (hl:(aN T k).length=ss.length) (hz:-200≤zero∧zero≤200) (hss:∀x∈ss,-8≤x.2.2∧x.2.2≤8) :
  Calls prog 200 #[.pointer (some ⟨C,0,none⟩),.agg #[vt],zero,k] w λe w'=>∃v,e=.returned v∧bG w.heap.size w' v (norm (yA ss (iD T k) zero))∧BL w w':=by
 have HA:=U (λW (hb:BL w W)=>anb vt T W (ht.below hb) hT)
 have HR:=U (λW vl (hb:BL w W) (hv:aC Shape.span.list W vl (iD T k))=>an5 C vs v6 vl ss (iD T k) zero W (hX.next hb) h6 (hs.below hb) hv (by rw[Qr,hl]) (by
  have:=ab0 (ss:=ss) (zero:=zero) (UT hT k) (iD T k).length;have h2:=(hT.pos hk).2;rw[Qr]at this ⊢
  omega) (UT hT k) hz hss)
 have HAT:=U (ag1 T hk);have hTl:=hT.len;obtain⟨a,c,rfl,hc1,hc2⟩:=ht.shape;have i1:(0:Int)≤(k:Int):=ae;have i2:(k:Int)<(allT T).length:=by have:=(gN.1 HAT.o).1;omega
 clear hX h6 hs ht hT hl hss;go_in;go_wp2_with fail;refine(HA.o _ (Bl.alloc (aB _ _) _)).mono ?_;rintro e w1 ⟨u,rfl,hu,hb1⟩;replace hu:=kK hu;have hb2:=Bl.call (Bl.alloc (aB w.heap.size w) (.cells #[.slice a T.length c] 139)) hb1;obtain⟨a1,c1,rfl,hd1,hd2⟩:=hu.shape;unfold maxLen at hd2;obtain⟨hkl,hke⟩:=gN.1 HAT.o;obtain⟨b2,o2,v2,e1,hb2',q2,hv2⟩:=hu.list_at hkl;subst e1;rw[hke]at hv2;have Pq:=U hv2;clear hu hke hv2;go_wp2_with fail;refine(HR.o _ _ hb2 Pq.o).mono ?_;rintro e w3 ⟨v,rfl,hO,hb3⟩;go_wp2;go_ret;exact⟨_,rfl,kJ hO hb2.size,Bl.call hb2 hb3⟩
def rJ(ss:List dx)(S:List dK)(zero:Int)(L:List Sp)(j:Nat):List dK:=
 (List.range S.length).map λi=>if i<j then(inter (aI S i).1 (gF L (-(mY ss i)-zero)),(aI S i).2)else aI S i
theorem alk{S:List dK}(h:j<S.length):aI S j=S[j]:=amO
theorem aly(ss:List dx)(S:List dK)(zero:Int)(L:List Sp)(j:Nat):(rJ ss S zero L j).length=S.length:=adp
theorem axC(ss:List dx)(S:List dK)(zero:Int)(L:List Sp):rJ ss S zero L 0=S:=by
 refine oD adp λi h1 h2=>?_;simp[rJ,alk h2]
theorem alx(ss:List dx){S:List dK}(zero:Int)(L:List Sp)(h:j<(rJ ss S zero L j).length):(rJ ss S zero L j)[j]=aI S j:=adp
theorem axB(ss:List dx){S:List dK}(zero:Int)(L:List Sp)(h:j<S.length):rJ ss S zero L (j+1)=(rJ ss S zero L j).set j (inter (aI S j).1 (gF L (-(mY ss j)-zero)),(aI S j).2):=by
 refine oD adp λi h1 h2=>?_;rw[Mw];by_cases e:j=i
 ·subst e;simp[rJ]
 ·rw[aD e];simp only[rJ,lK,rZ];by_cases h3:i<j
  ·rw[aG h3,aG ae]
  ·rw[aD h3,aD ae]
theorem axA(ss:List dx)(T:aT)(zero:Int)(k:Nat)(L:List Sp):T.set k (rJ ss (aN T k) zero L (aN T k).length)=kZ ss T zero k L:=by
 unfold kZ
 congr 1
 refine J7 λi hi=>?_;rw[aG (fD.1 hi)]
theorem Bx.obj{b:Nat}{w:World}(h:Bx b vs w)(h0:0<vs.length):∃t fr,w.heap[b]?=some (.cells vs.toArray t fr):=by
 have hc:∀j,w.cell? ⟨b,j,none⟩=vs[j]?:=h.cell;unfold World.cell? at hc;dsimp only at hc
 cases e:w.heap[b]? with
 |none=>have:=hc 0;rw[e,di h0]at this;cases this
 |some o=>
  rw[e]at hc;cases o
  case cells c t fr=>
   refine⟨t,fr,?_⟩
   have e2:c=vs.toArray:=by
    apply aec;intro j;have:=hc j;simpa using this
   rw[e2]
  all_goals
   have:=hc 0;rw[di h0]at this;cases this
theorem ar0(C:Nat)(vs:List Value)(v6 vt vl:Value)(ss:List dx)(T:aT)(k:Nat)(zero:Int)(L:List Sp)(w:World)(hX:Bx C vs w)(h6:vs[23]?=some v6)(hs:aC Shape.trip w v6 ss)(ht:aC Shape.nod.list w vt T)(hT:ib T)(hk:k<T.length)
  (hl:(aN T k).length=ss.length) (hL:aC Shape.span w vl L) (hLb:∀s∈L,-100000≤s.1∧s.2≤100000∧s.1≤s.2) (hLl:L.length≤1000000) (hz:-200≤zero∧zero≤200) (hss:∀x∈ss,-8≤x.2.2∧x.2.2≤8) :
  Calls prog 116 #[.pointer (some ⟨C,0,none⟩),.agg #[vt],zero,k,vl] w λe w'=>∃v,e=.returned (.agg #[v])∧aC Shape.nod.list w' v (kZ ss T zero k L)∧BL w w':=by
 have HA:Hid (Shape.nod.list.list.reads (λq=>q<w.heap.size) w [vt] T):=U (Shape.nod.list.list.mono ht λq hq _=>hq);have HX:=U hX;have HS:=U hs;have HL:=U hL;have HT:=U hT;have O3:=U hLb;have gz:=U hss;have hTl:=hT.len;obtain⟨a,c,rfl,hc1,hc2⟩:=ht.shape;obtain⟨al,cl,rfl,hd1,hd2⟩:=hL.shape;obtain⟨a6,c6,rfl,hf1,hf2⟩:=hs.shape;unfold maxLen at hc2 hd2 hf2;have yG:=(hX.cell 23).trans h6;have lC:=hX.lt;have HLEN:=U hl;clear hX hs ht hT hL hLb hss hl;go_in;go_wp2_with fail;have hb0:=Bl.alloc (Bl.alloc (aB w.heap.size w) (.cells #[.slice a T.length c] 139)) (.cells #[.slice none 0 0] 139);have X6:=(Bx.new (W:=w) (t:=139) (vs:=[.slice a T.length c]) rfl).alloc (.cells #[.slice none 0 0] 139);have jf:=Bx.new (W:=w.alloc (.cells #[.slice a T.length c] 139)) (B:=w.heap.size+1) (t:=139) (vs:=[.slice none 0 0]) aj;generalize (w.alloc (.cells #[.slice a T.length c] 139)).alloc (.cells #[.slice none 0 0] 139)=w0 at *;refine(ahy _ T w0 _ (Shape.below HA.o hb0) ae).mono ?_;rintro e w1 ⟨u,rfl,hOu,hb1⟩;obtain⟨gu,cu,csu,rfl,hu1,hu2,hu3,Nt,_,_,_,_⟩:=hOu.slot hk;have KF:=Bl.call hb0 hb1;have Pe:=U hOu;clear hOu;have CJ:=X6.next hb1;have Qi:=jf.next hb1
 have auK:w.heap.size+2≤w0.heap.size:=by have:=jf.lt;omega
 clear X6 jf;have p0:=CJ.cell 0;have l6:=CJ.lt;simp only[aK]at p0;obtain⟨bk,ok,csk,ek,hbk,hAk,Ra,hck⟩:=Shape.list_at HA.o hk;obtain⟨vk,rfl,hvk⟩:=EI.1 Ra;have KH:=hck 0 aW;simp only[aK,show Shape.nod.list.n=1 from rfl,FZ,oI]at KH;subst ek;have qk:=(KF.cell (p:=⟨bk,ok+k,none⟩) hbk).trans KH;obtain⟨ak,ck,rfl,hk1,hk2⟩:=(Shape.list_far hvk).shape;unfold maxLen at hk2;have FJ:=U hvk;clear Ra hck KH hvk;have i1:(0:Int)≤(k:Int):=ae;have i2:(k:Int)<T.length:=ae;have hbk1:bk<w1.heap.size:=by have:=KF.size;omega
 have HST:Hid (aN T k=T[k]):=U (zL hk);have hpos:=(HT.o.pos hk);rw[HST.o]at hpos HLEN;have JV:=FJ.o;obtain⟨S,hS⟩:=nm (T[k]);rw[hS.o]at hpos HLEN JV HST qk;have FJ:=U JV;clear JV;go_wp2_with fail;have hb2:=Bl.alloc KF (.cells #[.slice (some ⟨gu,0,none⟩) T.length cu] 139);refine(ahx _ S _ _ (Shape.below FJ.o hb2) ae).mono ?_;rintro e w2 ⟨us,rfl,hOs,hb3⟩;have pQ:=Bl.call hb2 hb3;obtain⟨gs,rC,_,rfl,hg1,hg2,hg3,hg4,_,_,_,_⟩:=hOs.slot hpos.1;simp only[fH]at hg1;have hw1:=hb1.size
 have Hf:Hid (Own Shape.nod (λq=>q≠gu∧q≠w1.heap.size∧q≠w.heap.size+1) w2 (w1.heap.size+1) 207 (.slice (some ⟨gs,0,none⟩) S.length rC) (rJ ss S zero L 0)):=U (by
  rw[axC];have:=hOs.mono (A':=λq=>q≠gu∧q≠w1.heap.size∧q≠w.heap.size+1) λq _ h=>Vy
  simpa only[fH]using this)
 have Pd:=U ((Pe.o.mono (A':=λq=>q≠w1.heap.size∧q≠w.heap.size+1∧q≠gs) λq _ h=>Vy).keep (Same.below (Bl.call (Bl.alloc (aB _ _) _) hb3)));have Qj:=(Bx.new (W:=w1) (t:=139) (vs:=[.slice (some ⟨gu,0,none⟩) T.length cu]) rfl).next hb3;have jf:=(Qi.alloc (.cells #[.slice (some ⟨gu,0,none⟩) T.length cu] 139)).next hb3;have hz2:w1.heap.size<w2.heap.size:=Qj.lt;clear hOs Pe hb2 hb3 CJ Qi p0 l6 qk hbk1 FJ
 (try unfold BL at *);generalize hB:w1.heap.size=B11 at *
 have HR:=U (aA.refl (λq=>q=gs) w2);go_wp2
 go_loopw [26] (λs26 wr=>∃j:Nat,j≤S.length∧s26=.int .i64 j∧Hid (Own Shape.nod (λq=>q≠gu∧q≠B11∧q≠w.heap.size+1) wr (B11+1) 207 (.slice (some ⟨gs,0,none⟩) S.length rC) (rJ ss S zero L j))∧Hid (aA (λq=>q=gs) w2 wr)) (λs26 _=>S.length-(intOf s26).toNat)
 case atStart=>exact⟨0,tX _,rfl,Hf,HR⟩
 case round=>
  clear Hf HR;obtain⟨j,hj,rfl,HO,HR⟩:=hrel;have HB:=U (aA.below pQ HR.o pQ.size (λq e=>ae));by_cases hlt:j<S.length
  ·have alP:=(HB.o.cell (p:=⟨C,23,none⟩) lC).trans yG;obtain⟨b6,o6,e6,d1,d2,d3⟩:=(HS.o.below HB.o).trip_at (k:=j) aa5;subst e6;have hjs:j<ss.length:=aa5;have zo:=gz.o _ (eu hjs);have Fv:Hid (mY ss j=(ss[j]'hjs).2.2):=U azT;generalize (ss[j]'hjs).2.2=off at *;obtain⟨g',cap',csj,e',_,hgl,_,_,hrd,hcl',hfr,hst⟩:=HO.o.slot (k:=j) (by rw[aly];exact hlt);obtain⟨e1,e2,e3⟩:gs=g'∧S.length=(rJ ss S zero L j).length∧rC=cap':=adu;subst e1 e3;rw[alx]at hrd;obtain⟨u1,u2,rfl,hu1,hu2⟩:=zz.1 hrd;have hc0:=hcl' 0 aW;simp only[aK,show Shape.nod.n=2 from rfl,oI]at hc0;have hf0:=hfr (j*2);have vE:=HT.o.node k j;have nz:=HT.o.al k j;rw[HST.o]at vE nz;have TN:=U (Shape.list_far hu1);obtain⟨a1,c1,rfl,hn1,hn2⟩:=TN.o.shape;unfold maxLen at hn2;have JS:=U hu2;have aCO:=U (λu y=>hst 0 u y aW);have wK:=U (axB ss zero L hlt);have kQ:xy (aI S j).1=true→True:=λ_=>trivial;have aDL:=lt_of_cell d1;have hlC:=(HB.o.size:w.heap.size≤wr.heap.size);have Rp:C<wr.heap.size:=ae
   have Vm:(aI S j).1.length≤12001:=by
    have:=zC vE.1 (a:=0) (b:=12000) nz ae;omega
   have aCM:=U vE.1;obtain⟨A1,hA1⟩:=nm ((aI S j).1);rw[hA1.o]at TN hn1 hc0 Vm;clear hrd hcl' hst hfr e' e2 vE nz hu1 hu2 kQ;have wn:IntKind.i64.wrap (-off)=-off:=dE _ ae;have wn2:IntKind.i64.wrap (-off-zero)=-off-zero:=dE _ ae;have i3:(0:Int)≤(j:Int):=ae;have i4:(j:Int)<S.length:=ae;have i5:(j:Int)<ss.length:=ae;go_wp2;refine iQ [23] [19,20,23] 1 [] [(2,[0,1,2,3,4,5,6,7,8,9,10,11,12,13,14,15,16,17,18],19),(1,[],20),(0,[21,22],23)] [] [] [(2,[_,_,_,_,_,_,_,_,_,_,_,_,_,_,_,_,_,_,_],19,_),(1,[],20,_),(0,[_,_],23,_)] [] ?_;refine aH (ku ?_)
   (repeat(go_big_quiet_step (fail)));refine aH ?_
   intro w3 hb3;have lI:=U (HL.o.below (Bl.call HB.o hb3));have hlo3:=(Bl.call HB.o hb3).size;have aEa:=hb3.size;have aDz:=hgl;go_wp2_with fail;refine(an6 _ L (-off-zero) w3 lI.o ae (λs hs=>by have:=O3.o s hs;omega) ae).mono ?_;rintro e w4 ⟨ux,rfl,hOx,hb4⟩;obtain⟨ax,cx,rfl⟩:=bv hOx;have DX:=U hOx;have ajC:=Bl.call hb3 hb4;go_wp2;refine dZ ajC (ku ?_)
   (repeat(go_big_quiet_step (fail)));refine aH ?_
   intro w5 hb5;have abb:=Bl.call ajC hb5;have HSX:=U (jT (fq DX.o hb5));have hsl:(gF L (-off-zero)).length=L.length:=by simp[gF]
   have xM:=U hsl;clear hsl;go_wp2_with fail;refine(anJ _ _ A1 (gF L (-off-zero)) w5 (TN.o.below abb) HSX.o (by rw[xM.o];have:=Ux Vm hLl;omega)).mono ?_;rintro e w6 ⟨vm,rfl,hOm,hb6⟩;obtain⟨am,cm,rfl⟩:=bv hOm;have aug:=Bl.call abb hb6;have xL:=U hOm;clear hOx hOm;go_wp2;refine dZ (Bl.call hb5 hb6) (iP ?_)
   (repeat(go_big_quiet_step (fail)));refine aH ?_
   intro nq;have hbf:=Bl.drewN aug nq;have ao1:=U (jT (jB xL.o nq));have hmb:∀q,(Value.slice am (inter A1 (gF L (-off-zero))).length cm).ownBlock=some q→w5.heap.size≤q:=λq hq=>(xL.o.lt q hq).1;have h5:=abb.size;have Q8:=HO.o.keep (Same.below hbf);obtain⟨g7,Z7,cs7,e7,_,abr,_,_,KL,QZ,Q0,Rf⟩:=Q8.slot (k:=j) (by rw[aly];exact hlt);obtain⟨e1,e2,e3⟩:gs=g7∧S.length=(rJ ss S zero L j).length∧rC=Z7:=by simpa using e7
   subst e1 e3;rw[alx]at KL;obtain⟨u17,u27,rfl,VQ,VR⟩:=zz.1 KL;have hfin:=Rf 0 (.slice am (inter A1 (gF L (-off-zero))).length cm) (inter A1 (gF L (-off-zero)),(aI S j).2) aW (zz.2 ⟨_,_,rfl,xh mE ao1.o (λq hq=>by have:=hmb q hq;omega),VR⟩);simp only[show Shape.nod.n=2 from rfl,oI]at hfin;rw[show inter A1 (gF L (-off-zero))=inter (aI S j).1 (gF L (-(mY ss j)-zero)) by rw[hA1.o,Fv.o],←wK.o]at hfin;have Nu:inter (aI S j).1 (gF L (-(mY ss j)-zero))=inter A1 (gF L (-off-zero)):=by rw[hA1.o,Fv.o]
   rw[Nu]at hfin;have yK:=U hfin;have lJ:=U ((HR.o.trans (aA.of_below hbf)).trans (aA.setCell (λq=>q=gs) _ ⟨gs,j*2,none⟩ (.slice am (inter A1 (gF L (-off-zero))).length cm) rfl));have auC:gs<(w6.drewN nq).heap.size:=abr;have auk:=QZ 0 aW;simp only[aK,show Shape.nod.n=2 from rfl,oI]at auk;have hfq:=Q0 (j*2);clear Rf KL VQ VR hfin Q8 Nu hmb e7;clear QZ Q0 e2;go_wp2;refine bS _ rfl (jl ?_);go_wp2;go_roundw
   case rel=>exact⟨j+1,ae,aY,yK,lJ⟩
   case measure=>exact aFF
  ·obtain rfl:j=S.length:=ae;have Qk:=Qj.turns HR.o ae;have F8:=jf.turns HR.o ae;have RP:=Qk.cell 0;have ayg:=Qk.lt;have ayf:=F8.lt;have r10:=F8.cell 0;have aye:=F8.free 0;simp only[aK]at RP r10;have kP:=(Pd.o.keep (HR.o.same (λq h _ e=>ayn))).mono (A':=λq=>q≠B11∧q≠w.heap.size+1) λq _ h=>⟨h.1,h.2.1⟩;obtain⟨g',cap',Kq,e',_,hgl,_,_,hrd,hcl',hfr,hst⟩:=kP.slot hk;obtain⟨e1,e2⟩:gu=g'∧cu=cap':=adu;subst e1 e2;have hck:=hcl' 0 aW;have Ew:=hfr k;have hlen1:Kq.length=1:=Shape.nod.list.len hrd
   obtain⟨vo,rfl⟩:∃vo,Kq=[vo]:=by
    match Kq,hlen1 with
    |[x],_=>exact⟨x,rfl⟩
   simp only[aK,show Shape.nod.list.n=1 from rfl,FZ,oI]at hck
   have hfin:=hst 0 (.slice (some ⟨gs,0,none⟩) S.length rC) (rJ ss S zero L S.length) aW (by
    have h1:=HO.o.lst;refine Shape.nod.list.mono h1 λq _ h=>?_;rcases h with h|h
    ·exact⟨⟨h.2.1,h.2.2⟩,h.1⟩
    ·simp[Value.ownBlock]at h;omega)
   simp only[show Shape.nod.list.n=1 from rfl,FZ,oI]at hfin;have DV:=U hfin;have hne1:¬gu=B11:=ae;have hne2:¬B11=gu:=ae;have auW:¬w.heap.size+1=gu:=ae;have auX:¬gu=w.heap.size+1:=ae;clear kP hrd hcl' hst hfin hlen1 e';go_wp2_with fail;have Kk:=(F8.far (p:=⟨gu,k,none⟩) (by show ¬gu=_;omega) (.slice (some ⟨gs,0,none⟩) S.length rC)).set 0 (.slice (some ⟨gu,0,none⟩) T.length cu) aj;have SY:=Kk.cell 0;have aCw:=Kk.lt;simp only[Cw,aK]at SY;have DR:=Bl.setCell (Bl.setCell HB.o (p:=⟨gu,k,none⟩) (by show w.heap.size≤gu;omega) (.slice (some ⟨gs,0,none⟩) S.length rC)) (p:=⟨w.heap.size+1,0,none⟩) Ll (.slice (some ⟨gu,0,none⟩) T.length cu);have Fv:=(DV.o.keep (w':=(wr.setCell ⟨gu,k,none⟩ (.slice (some ⟨gs,0,none⟩) S.length rC)).setCell ⟨w.heap.size+1,0,none⟩ (.slice (some ⟨gu,0,none⟩) T.length cu)) ((Same.setCell _ _ _).mono λq h=>by rcases h with h|h;exact h.2;simp[Value.ownBlock]at h;show q≠w.heap.size+1;omega)).list;generalize (wr.setCell ⟨gu,k,none⟩ (.slice (some ⟨gs,0,none⟩) S.length rC)).setCell ⟨w.heap.size+1,0,none⟩ (.slice (some ⟨gu,0,none⟩) T.length cu)=wf at *;obtain⟨tR,uC,qL⟩:=Kk.obj aj;simp only[Cw]at qL
   refine kE (Lb results116 _ _ _ tR _ uC _ rfl qL underlying139 rfl aF) rfl ⟨_,rfl,?_,DR⟩;rw[←axA,HST.o];exact Fv
theorem avL:(prog.info? 207).map (λi=>(i.zero,i.size,i.bytes))=some (some (.agg #[.slice none 0 0,.slice none 0 0]),2,48):=aF
theorem avU:(prog.info? 204).map (λi=>(i.zero,i.size,i.bytes))=some (some (.slice none 0 0),1,24):=aF
def NI(x:aJ)(f:aQ)(st zero:Int)(t:Nat)(s:dx):dK:=(lM x f st (jP f) (df f).length zero s t,if(t:Int)<x.ticks then CR (df f) f.sheet.band (oP f s.2.2) (eY (df f) x.ticks) (s.1,s.2.1)else [])
def DD(x:aJ)(f:aQ)(st zero:Int)(t k:Nat):List dK:=((aL x f).take k).map (NI x f st zero t)
def EY(x:aJ)(f:aQ)(st zero:Int)(k:Nat):aT:=(List.range k).map λt=>DD x f st zero t (aL x f).length
theorem aAP(x:aJ)(f:aQ)(st zero:Int):EY x f st zero (x.ticks+1).toNat=bQ x f st zero:=by
 unfold EY DD;rw[jc];rfl
theorem aAQ(x:aJ)(f:aQ)(st zero:Int)(k:Nat):EY x f st zero (k+1)=EY x f st zero k++[DD x f st zero k (aL x f).length]:=by simp[EY,jq]
theorem aAO(x:aJ)(f:aQ)(st zero:Int)(t:Nat)(h:k<(aL x f).length):DD x f st zero t (k+1)=DD x f st zero t k++[NI x f st zero t (aL x f)[k]]:=by
 unfold DD;rw[List.take_succ_eq_append_getElem h,List.map_append];rfl
theorem aar(x:aJ)(f:aQ)(st:Int)(C:Nat)(cs:List Value)(zero:Int)(w:World)(hF:mI x f st C cs w)(hP:GU x f)(hz:-200≤zero∧zero≤200)(hl:(aL x f).length≤1000000):
  Calls prog 114 #[.pointer (some ⟨C,0,none⟩),zero] w λe w'=>∃v,e=.returned (.agg #[v])∧Shape.nod.list.list.reads (λb=>w.heap.size≤b) w' [v] (bQ x f st zero)∧BL w w':=by
 have HF:=U hF;have HP:=U hP;clear hF hP;obtain⟨vl,hl1,hl2⟩:=HF.o.list;obtain⟨al,cl,rfl,hc1,hc2⟩:=hl2.shape;unfold maxLen at hc2;have HS:=U hl2;clear hl2;have yG:=(HF.o.m.bx.cell 23).trans hl1;have Dl:=(HF.o.m.bx.cell 20).trans HF.o.m.ticks;have lC:=HF.o.m.bx.lt;obtain⟨tk,htk⟩:∃t:Nat,Hid (x.ticks=(t:Int)):=⟨x.ticks.toNat,U ajr⟩;have htb:1≤tk∧tk≤400:=by have:=HP.o.ticks;have:=htk.o;omega
 have zW:=U (aAP x f st zero);rw[htk.o]at Dl zW;rw[←zW.o,show((tk:Int)+1).toNat=tk+1 from ae];have XZ:=U (λ(W:World) (hb:BL w W) (c a o tick:Int) (hc:-1≤c∧c≤(df f).length) (ha:0≤a) (ho:-8≤o∧o≤8) (ht:0≤tick∧tick≤1000)=>aq6 x f st C cs c a o tick zero W (HF.o.m.below hb) HP.o hc ha ho ht hz);have Yb:=U (λ(W:World) (hb:BL w W) (c a o:Int) (hc:-1≤c∧c≤(df f).length) (ha:0≤a∧a≤1000000)=>arc x f st C cs c a o W (HF.o.below hb) HP.o hc ha)
 have tT:Hid (∀s∈aL x f,(-1≤s.1∧s.1≤(df f).length)∧(0≤s.2.1∧s.2.1≤1000000)∧-8≤s.2.2∧s.2.2≤8):=U (λs hs=>by
  obtain⟨h1,h2,h3⟩:=Jn hs;have h4:=mem_places.1 h1;have h5:=HP.o.band;dsimp only at h4
  have h6:gX (df f) x.ticks s.1≤1000:=by
   have:=HP.o.ticks;unfold gX;split
   ·omega
   ·split<;>omega
  omega)
 have qR:=U (λ(c a o:Int) (t:Nat) (ht:(t:Int)<tk)=>show NI x f st zero t (c,a,o)=(lM x f st (jP f) (df f).length zero (c,a,o) t,CR (df f) f.sheet.band (oP f o) (eY (df f) x.ticks) (c,a))from by unfold NI;rw[if_pos (by rw[htk.o];exact ht)]);have HEN:=U (λ(c a o:Int) (t:Nat) (ht:¬(t:Int)<tk)=>show NI x f st zero t (c,a,o)=(lM x f st (jP f) (df f).length zero (c,a,o) t,[])from by unfold NI;rw[if_neg (by rw[htk.o];exact ht)]);obtain⟨i0,hi,hz0,hz1,hz2⟩:=dY avL;obtain⟨j0,hj,hy0,hy1,hy2⟩:=dY avU;have Pm:=U (λt k (h:k<(aL x f).length)=>aAO x f st zero t h);have Fx:Hid (∀t,DD x f st zero t 0=[]):=U (λt=>rfl);have Ht:=U (aAQ x f st zero);have HT0:Hid (EY x f st zero 0=[]):=U rfl;have tN:Hid (∀t k,k≤(aL x f).length→(DD x f st zero t k).length=k):=U (λt k h=>by unfold DD;rw[List.length_map,List.length_take];omega);have D7:Hid (∀k,(EY x f st zero k).length=k):=U (λk=>by unfold EY;simp);generalize aL x f=ss at *;clear hl1;go_in;go_wp2_with fail;have X4:=U ((Bx.new (W:=w) (t:=139) (vs:=[.slice none 0 0]) rfl).alloc (.cells #[.slice none 0 0] 139));have X5:=U (Bx.new (W:=w.alloc (.cells #[.slice none 0 0] 139)) (B:=w.heap.size+1) (t:=139) (vs:=[.slice none 0 0]) aj)
 have hb0:Hid (BL w ((w.alloc (.cells #[.slice none 0 0] 139)).alloc (.cells #[.slice none 0 0] 139))):=U (Bl.alloc (Bl.alloc (aB _ _) _) _);generalize (w.alloc (.cells #[.slice none 0 0] 139)).alloc (.cells #[.slice none 0 0] 139)=w0 at *
 go_loopw [6] (λs6 wr=>∃(t:Nat) (v:Value),t≤tk+1∧s6=.int .i64 t∧Hid (Bx w.heap.size [.slice none 0 0] wr)∧Hid (Bx (w.heap.size+1) [v] wr)∧Hid (Own Shape.nod.list (λb=>w.heap.size+2≤b) wr (w.heap.size+2) 204 v (EY x f st zero t))∧Hid (BL w wr)) (λs6 _=>tk+1-(intOf s6).toNat)
 case atStart=>exact⟨0,_,tX _,rfl,X4,X5,U (by rw[HT0.o];exact Own.nil),hb0⟩
 case round=>
  clear X4 X5 hb0 HT0;obtain⟨t,v,ht,rfl,X4,X5,HO,HB⟩:=hrel;obtain⟨av,cv,rfl⟩:=HO.o.slice;rw[D7.o]at *;have y20:=(HB.o.cell (p:=⟨C,20,none⟩) lC).trans Dl;have y23:=(HB.o.cell (p:=⟨C,23,none⟩) lC).trans yG;have lCr:C<wr.heap.size:=by have:=HB.o.size;omega
  have x5:=X5.o.cell 0;have l5:=X5.o.lt;simp only[aK]at x5;by_cases hlt:t≤tk
  ·have hti:(t:Int)≤tk:=ae;go_wp2_with fail;obtain⟨wo,hwo⟩:∃wo,wo=wr:=⟨_,rfl⟩;subst hwo
   go_loopw [7,24] (λs7 s24 wi=>∃k:Nat,k≤ss.length∧s24=.int .i64 k∧Hid (Own Shape.nod (λb=>wo.heap.size≤b) wi wo.heap.size 207 s7 (DD x f st zero t k))∧Hid (BL wo wi)) (λ_ s24 _=>ss.length-(intOf s24).toNat)
   case atStart=>exact⟨0,tX _,rfl,U (by rw[Fx.o];exact Own.nil),U (aB _ _)⟩
   case round=>
    obtain⟨k,hk,rfl,HQ,HI⟩:=hrel;obtain⟨a7,c7,rfl⟩:=HQ.o.slice;rw[tN.o t k hk]at *;by_cases hlk:k<ss.length
    ·have Cn:=U (Bl.call HB.o HI.o);obtain⟨b6,o6,e6,d1,d2,d3⟩:=(HS.o.below Cn.o).trip_at hlk;subst e6;have hsb:=tT.o _ (eu hlk);have HSK:=U (Pm.o t k hlk);generalize ss[k]=s at *;obtain⟨c,a,o⟩:=s;simp only at d1 d2 d3 hsb;have i1:(0:Int)≤(k:Int):=ae;have i2:(k:Int)<ss.length:=ae;go_wp2_with fail;have HB1:=U (Bl.alloc Cn.o (.cells #[c,a,o] 195));refine(XZ.o _ HB1.o c a o t hsb.1 hsb.2.1.1 hsb.2.2 ae).mono ?_;rintro e w2 ⟨va,rfl,hva,hb2⟩;obtain⟨ui,uy,rfl⟩:=bv hva;have FI:=U hva;clear hva;obtain⟨A1,hA1⟩:∃l,Hid (lM x f st (jP f) (df f).length zero (c,a,o) t=l):=⟨_,U rfl⟩;rw[hA1.o]at FI ⊢;have HB2:=U (Bl.call HB1.o hb2);have HI2:=U (Bl.call HI.o (Bl.call (Bl.alloc (aB wr.heap.size wr) (.cells #[c,a,o] 195)) hb2));have YI:=U (HQ.o.below (Bl.call (Bl.alloc (aB wr.heap.size wr) (.cells #[c,a,o] 195)) hb2));have X9:=(Bx.new (W:=wr) (t:=195) (vs:=[.int .i64 c,.int .i64 a,.int .i64 o]) rfl).next hb2;have z20:=(HB2.o.cell (p:=⟨C,20,none⟩) lC).trans Dl;have Rq:C<w2.heap.size:=by have:=HB2.o.size;omega
     have n0:=X9.cell 0;have n1:=X9.cell 1;have n2:=X9.cell 2;have l9:=X9.lt;simp only[aK,bB]at n0 n1 n2;have hq2:=YI.o.lt;have aD9:wr.heap.size+1≤w2.heap.size:=by have:=hb2.size;simp at this;omega
     have aki:∀q,(Value.slice ui A1.length uy).ownBlock=some q→wr.heap.size<q∧q<w2.heap.size:=λq hq=>by have:=FI.o.lt q hq;simp at this;omega
     have Ak:=U (jT FI.o);have aD7:=HI.o.size;have hQ1:=HQ.o.lt;clear HQ HI HB1 hb2 FI;by_cases akf:(t:Int)<tk
     focus
      have vE:=U (qR.o c a o t ae);have dt3:decide (t<tk)=true:=by simpa using akf
      have dt4:t<tk:=ae;rw[hA1.o]at vE;go_wp2_with fail;refine(Yb.o _ (Bl.alloc HB2.o (.cells #[.slice ui A1.length uy,.slice none 0 0] 207)) c a o hsb.1 hsb.2.1).mono ?_;rintro e w4 ⟨ve,rfl,hve,hb4⟩;obtain⟨uj,uz,rfl⟩:=bv hve;obtain⟨E1,hE1⟩:∃l,Hid (CR (df f) f.sheet.band (oP f o) (eY (df f) x.ticks) (c,a)=l):=⟨_,U rfl⟩;rw[hE1.o]at hve vE ⊢;have IG:=Bl.call (Bl.alloc (aB w2.heap.size w2) (.cells #[.slice ui A1.length uy,.slice none 0 0] 207)) hb4;have jf:=U ((Bx.new (W:=w2) (t:=207) (vs:=[.slice ui A1.length uy,.slice none 0 0]) rfl).next hb4);have b0:=jf.o.cell 0;have bf:=jf.o.free 1;have b1:=jf.o.cell 1;have bl:=jf.o.lt;simp only[aK,bB]at b0 b1;go_wp2_with (with_reducible_and_instances refine dI 45 ?_)
      have jf:=U (jf.o.set 1 (.slice uj E1.length uz) aj);simp only[Cw,Ed]at jf
      have YJ:=U (((YI.o.mono (A':=λb=>wo.heap.size≤b∧b<w2.heap.size) λb hb h=>⟨h,hb⟩).keep (w':=w4.setCell ⟨w2.heap.size,1,none⟩ (.slice uj E1.length uz)) ((Same.below IG).trans ((Same.setCell w4 ⟨w2.heap.size,1,none⟩ _).mono λb hb=>by
       rcases hb with h|h
       ·exact azO
       ·have:=(hq2 b h.symm).2;show b≠w2.heap.size;omega))).mono (A':=λb=>wo.heap.size≤b) λb _ h=>h.1)
      have HI6:=U (Bl.setCell (Bl.call HI2.o IG) (p:=⟨w2.heap.size,1,none⟩) (by show _≤w2.heap.size;omega) (.slice uj E1.length uz));have OV:=U (xh (P:=λq=>wr.heap.size<q∧q<w2.heap.size) mE Ak.o aki);have jL:=U (Shape.span.list.keep OV.o (w':=w4.setCell ⟨w2.heap.size,1,none⟩ (.slice uj E1.length uz)) ((Same.below IG).trans ((Same.setCell w4 ⟨w2.heap.size,1,none⟩ _).mono λb hb=>azO)));have akj:∀q,(Value.slice uj E1.length uz).ownBlock=some q→w2.heap.size<q:=λq hq=>by have:=hve.lt q hq;simp at this;omega
      have HE2:=U (Shape.trip.list.keep (xh (P:=λq=>w2.heap.size<q) jC (Jb hve) akj) (w':=w4.setCell ⟨w2.heap.size,1,none⟩ (.slice uj E1.length uz)) ((Same.setCell w4 ⟨w2.heap.size,1,none⟩ _).mono λb hb=>azO));have vR:w2.heap.size<(w4.setCell ⟨w2.heap.size,1,none⟩ (.slice uj E1.length uz)).heap.size:=jf.o.lt;clear b0 b1 bf bl IG hve akj hb4 n0 n1 n2 l9 X9 z20 Rq;generalize w4.setCell ⟨w2.heap.size,1,none⟩ (.slice uj E1.length uz)=W6 at *;have HNR:=U (zz.2 ⟨_,_,rfl,Shape.mono _ jL.o (A':=λq=>wr.heap.size<q) λb _ h=>h.1,Shape.mono _ HE2.o (A':=λq=>wr.heap.size<q) λb _ h=>ae⟩:Shape.nod.reads (λq=>wr.heap.size<q) W6 [.slice ui A1.length uy,.slice uj E1.length uz] (A1,E1));clear jL HE2 OV
     rotate_left
     focus
      have vE:=U (HEN.o c a o t ae);have dt3:decide (t<tk)=false:=by simpa using akf
      have dt4:¬t<tk:=ae;rw[hA1.o]at vE;go_wp2_with (with_reducible_and_instances refine dI 45 ?_)
      have jf:=U (Bx.new (W:=w2) (t:=207) (vs:=[.slice ui A1.length uy,.slice none 0 0]) rfl);have YJ:=U (YI.o.below (Bl.alloc (aB _ _) (.cells #[.slice ui A1.length uy,.slice none 0 0] 207)));have HI6:=U (Bl.alloc HI2.o (.cells #[.slice ui A1.length uy,.slice none 0 0] 207));have jL:=U (Shape.below (xh (P:=λq=>wr.heap.size<q) mE Ak.o λq hq=>(aki q hq).1) (Bl.alloc (aB _ _) (.cells #[.slice ui A1.length uy,.slice none 0 0] 207)));have vR:w2.heap.size<(w2.alloc (.cells #[.slice ui A1.length uy,.slice none 0 0] 207)).heap.size:=aj;clear n0 n1 n2 l9 X9 z20 Rq;generalize w2.alloc (.cells #[.slice ui A1.length uy,.slice none 0 0] 207)=W6 at *;obtain⟨uj,have'⟩:∃b:Option Addr,Hid (b=none):=⟨_,U rfl⟩;obtain⟨E1,hE1⟩:∃l:List lG,Hid (l=[]):=⟨_,U rfl⟩;obtain⟨uz,ajJ⟩:∃c:Nat,Hid (c=0):=⟨_,U rfl⟩;have HNR:=U (zz.2 ⟨_,_,rfl,jL.o,by rw[have'.o,hE1.o,ajJ.o];exact⟨none,0,rfl,aj,aj,aj⟩⟩:Shape.nod.reads (λq=>wr.heap.size<q) W6 [.slice ui A1.length uy,.slice uj E1.length uz] (A1,E1));have e1:(Value.slice none 0 0)=Value.slice uj E1.length uz:=by rw[have'.o,hE1.o,ajJ.o];rfl
      rw[e1]at jf;rw[←hE1.o]at vE;clear jL e1
     all_goals
      refine⟨?_⟩;have b0:=jf.o.cell 0;have b1:=jf.o.cell 1;have bl:=jf.o.lt;simp only[aK,bB]at b0 b1;have HQ7:=YJ.o.below (Bl.alloc (aB W6.heap.size W6) (.cells #[.slice ui A1.length uy,.slice uj E1.length uz] 207));have BP:Hid (Shape.nod.reads (λb=>wo.heap.size≤b∧some b≠(Value.slice a7 k c7).ownBlock) (W6.alloc (.cells #[.slice ui A1.length uy,.slice uj E1.length uz] 207)) [.slice ui A1.length uy,.slice uj E1.length uz] (A1,E1)):=U (Shape.mono _ (Shape.below HNR.o (Bl.alloc (aB W6.heap.size W6) _)) λb _ h=>⟨ae,λe=>by have:=(hQ1 b e.symm).2;omega⟩);have hrl:=tN.o t k ae;obtain⟨cs',hr,hap⟩:=K7 HQ7;have HR:=U hr;have vB:=U hap;clear hr hap HQ7;generalize DD x f st zero t k=RR at *;go_wp2_with (at_builtin;go_loud (refine iE (HR.o) ⟨W6.heap.size,0,none⟩ 1 1 [.slice ui A1.length uy,.slice uj E1.length uz] hi hz0 hz1 hz2 ?_);intro v' w4 hown' hgrow bY)
      have fu:=U (vB.o w4 v' (A1,E1) _ BP.o hown' hgrow bY);have hb4:=U (gJ (Bl.alloc HI6.o (.cells #[.slice ui A1.length uy,.slice uj E1.length uz] 207)) hgrow bC (λj hj=>(YJ.o.lt j hj).1));clear hown' hgrow bY;go_roundw
      case rel=>exact⟨k+1,ae,aY,by rw[HSK.o,vE.o];exact fu,hb4⟩
      case measure=>exact aFF
    ·obtain rfl:k=ss.length:=ae;have ZQ:=X5.o.next HI.o;have z5:=ZQ.cell 0;have z5l:=ZQ.lt;simp only[aK]at z5;have kP:=HO.o.below HI.o;have lQ:=U (Bl.call HB.o HI.o);have aD8:=HB.o.size;have hq7:=HQ.o.lt;have Q9:=HO.o.lt;have hl5:w.heap.size+2≤wo.heap.size:=ae;have HRW:=U (Ht.o t)
     have vG:=U (Shape.mono _ (Shape.below HQ.o.lst (Bl.alloc (aB wr.heap.size wr) (.cells #[.slice a7 ss.length c7] 204))) (A':=λb=>w.heap.size+2≤b∧some b≠(Value.slice av t cv).ownBlock) λb _ h=>by
      rcases h with h|h
      ·exact⟨ae,λe=>by have:=(Q9 b e.symm).2;omega⟩
      ·have:=(hq7 b h.symm).1
       exact⟨ae,λe=>by have:=(Q9 b e.symm).2;omega⟩)
     have htl:=D7.o t;obtain⟨cs',hr,hap⟩:=K7 (kP.below (Bl.alloc (aB wr.heap.size wr) (.cells #[.slice a7 ss.length c7] 204)));have HR:=U hr;have vB:=U hap;clear hr hap;generalize EY x f st zero t=TT at *;rw[htl]at HR vB;clear htl;go_wp2_with (at_builtin;go_loud (refine iE (HR.o) ⟨wr.heap.size,0,none⟩ 1 1 [.slice a7 ss.length c7] hj hy0 hy1 hy2 ?_);intro v' w4 hown' hgrow bY;obtain⟨a9,c9,rfl⟩:=bv hown';have hx5:=(ZQ.alloc (.cells #[.slice a7 ss.length c7] 204)).grown hgrow (λe=>by have:=(Q9 _ e.symm).1;omega);have g5:=hx5.cell 0;have g5f:=hx5.free 0;have g5l:=hx5.lt;simp only[aK]at g5)
     have fu:=vB.o w4 _ _ _ vG.o hown' hgrow bY;have hb4:=Bl.setCell (gJ (Bl.alloc lQ.o (.cells #[.slice a7 ss.length c7] 204)) hgrow (by simp;have:=lQ.o.size;omega) (λj hj=>by have:=(Q9 j hj).1;omega)) (p:=⟨w.heap.size+1,0,none⟩) Ll (.slice a9 (t+1) c9);have X4r:=U ((((X4.o.next HI.o).alloc (.cells #[.slice a7 ss.length c7] 204)).grown hgrow (λe=>by have:=(Q9 _ e.symm).1;omega)).far (p:=⟨w.heap.size+1,0,none⟩) (by show ¬w.heap.size+1=_;omega) (.slice a9 (t+1) c9));have X5f:=U (hx5.set 0 (.slice a9 (t+1) c9) aj)
     have iA:=U (fu.keep (w':=w4.setCell ⟨w.heap.size+1,0,none⟩ (.slice a9 (t+1) c9)) ((Same.setCell w4 ⟨w.heap.size+1,0,none⟩ _).mono λb hb=>by
      rcases hb with h|h
      ·show b≠w.heap.size+1;omega
      ·have:=(fu.lt b h.symm).1;show b≠w.heap.size+1;omega))
     have hb5:=U hb4;clear hown' hgrow bY hx5 g5 g5f g5l fu hb4;go_roundw
     case rel=>exact⟨t+1,_,ae,aY,X4r,X5f,by rw[HRW.o];exact iA,hb5⟩
     case measure=>exact aFF
  ·obtain rfl:t=tk+1:=ae;have x4:=X4.o.cell 0;have l4:=X4.o.lt;have f4:=X4.o.free 0;simp only[aK]at x4;go_wp2_with fail;have X4f:=X4.o.set 0 (.slice av (tk+1) cv) aj;obtain⟨tR,uC,qL⟩:=X4f.obj aj;simp only[Cw]at qL;refine kE (Lb results114 _ _ _ tR _ uC _ rfl qL underlying139 rfl aF) rfl ⟨_,rfl,?_,Bl.setCell HB.o (p:=⟨w.heap.size,0,none⟩) WI _⟩
   have DV:=(HO.o.keep (w':=wr.setCell ⟨w.heap.size,0,none⟩ (.slice av (tk+1) cv)) ((Same.setCell wr ⟨w.heap.size,0,none⟩ _).mono λb hb=>by
    rcases hb with h|h
    ·show b≠w.heap.size;omega
    ·have:=(HO.o.lt b h.symm).1;show b≠w.heap.size;omega))
   exact Shape.mono _ DV.lst λb _ h=>by
    rcases h with h|h
    ·omega
    ·have:=(DV.lt b h.symm).1;omega
def ap5(w:World)(s:vJ)(cs:List Value):Prop:=∃vt vb vr vs,cs=iq s vt vb vr vs∧nU (λ_=>True) w s vt vb vr vs
theorem Bo{s:Shape α}{enc:α→List Value}{e:Nat}{w:World}{xs:List α}(hp:Plain s enc)(h:jd e s.n enc base w v xs):s.list.reads (λb=>base≤b) w [v] xs:=by
 have h1:=Ja hp h;obtain⟨a,c,e1,h2,h3,h4⟩:=h1;refine⟨a,c,e1,h2,h3,λh0=>?_⟩;obtain⟨b,o,e2,hb,_,hr⟩:=h4 h0;subst e2;simp only[oC,qZ]at e1;subst e1;refine⟨b,o,rfl,hb,(h.lt b rfl).1,λk hk=>?_⟩;obtain⟨cs,g1,g2⟩:=hr k hk;exact⟨cs,hp.2 (hp.1 g1),g2⟩
theorem aBz(s:vJ)(cs:List Value)(w:World)(hx:ap5 w s cs)(h1:s.trace.length≤1000000)(h2:s.blots.length≤1000000)(h3:s.drum.1.length≤1000000)(h4:s.drum.2.length≤1000000):
  Calls prog 157 #[.agg cs.toArray] w λe w'=>∃cs' ut ub ur us,e=.returned (.agg cs'.toArray)∧cs'=iq s ut ub ur us∧nU (λq=>w.heap.size≤q) w' s ut ub ur us∧BL w w':=by
 obtain⟨vt,vb,vr,vs,hcs,ht,hb,hr,hs⟩:=hx;have HL:Hid (cs.length=18):=U R4;have HK:Hid (cs[10]?=some vt∧cs[11]?=some vb∧cs[12]?=some vr∧cs[13]?=some vs):=U (by rw[hcs];exact⟨rfl,rfl,rfl,rfl⟩);have HF:Hid (∀a b c d,(((cs.set 10 a).set 11 b).set 12 c).set 13 d=iq s a b c d):=U (by rw[hcs];intros;rfl);have HT:=U ht;have HB:=U hb;have HR:=U hr;have HS:=U hs;clear hcs ht hb hr hs;go_in;go_wp2_with fail;have aZ:=U ((Bx.new (W:=w) (t:=61) (vs:=cs) rfl).alloc (.cells #[.int .i64 0,.int .i64 0,.int .i64 0,.int .i64 0,.int .i64 0,.int .i64 0,.int .i64 0,.int .i64 0,.int .i64 0,.int .i64 0,.slice none 0 0,.slice none 0 0,.slice none 0 0,.slice none 0 0,.int .i64 0,.int .i64 0,.int .i64 0,.int .i64 0] 61));have bg:=U (Bx.new (W:=w.alloc (.cells cs.toArray 61)) (B:=w.heap.size+1) (t:=61) (vs:=[.int .i64 0,.int .i64 0,.int .i64 0,.int .i64 0,.int .i64 0,.int .i64 0,.int .i64 0,.int .i64 0,.int .i64 0,.int .i64 0,.slice none 0 0,.slice none 0 0,.slice none 0 0,.slice none 0 0,.int .i64 0,.int .i64 0,.int .i64 0,.int .i64 0]) aj)
 have HB0:=U (Bl.alloc (Bl.alloc (aB w.heap.size w) (.cells cs.toArray 61)) (.cells #[.int .i64 0,.int .i64 0,.int .i64 0,.int .i64 0,.int .i64 0,.int .i64 0,.int .i64 0,.int .i64 0,.int .i64 0,.int .i64 0,.slice none 0 0,.slice none 0 0,.slice none 0 0,.slice none 0 0,.int .i64 0,.int .i64 0,.int .i64 0,.int .i64 0] 61));generalize (w.alloc (.cells cs.toArray 61)).alloc (.cells #[.int .i64 0,.int .i64 0,.int .i64 0,.int .i64 0,.int .i64 0,.int .i64 0,.int .i64 0,.int .i64 0,.int .i64 0,.int .i64 0,.slice none 0 0,.slice none 0 0,.slice none 0 0,.slice none 0 0,.int .i64 0,.int .i64 0,.int .i64 0,.int .i64 0] 61)=w0 at *;have c10:=(aZ.o.cell 10).trans HK.o.1;have c11:=(aZ.o.cell 11).trans HK.o.2.1;have l1:=aZ.o.lt;refine iQ [7,9] [2,5,7,9] 1 [] [(2,[0,1,3,4],2),(0,[6],5),(1,[],7),(0,[8],9)] [] [] [(2,[_,_,_,_],2,_),(0,[_],5,_),(1,[],7,_),(0,[_],9,_)] [] ?_;refine aH (ku ?_)
 (repeat(go_big_quiet_step (fail)));refine aH ?_
 intro w1 hb1;go_wp2_with fail;refine(arK _ s.trace w1 (aC.below HT.o (Bl.call HB0.o hb1)) ae).mono ?_;rintro e w2 ⟨v1,rfl,hO1,hb2⟩;obtain⟨a1,c1,rfl⟩:=bv hO1;go_wp2;refine dZ (Bl.call hb1 hb2) (ku ?_)
 (repeat(go_big_quiet_step (fail)));refine aH ?_
 intro w3 hb3;have hB3:=Bl.call (Bl.call (Bl.call HB0.o hb1) hb2) hb3;have QL:=gV hO1 hb3;go_wp2_with fail;refine(ahw _ s.blots w3 (aC.below HB.o hB3) ae).mono ?_;rintro e w4 ⟨v2,rfl,hO2,hb4⟩;obtain⟨a2,c2,rfl⟩:=bv hO2;have ai1:=gV QL hb4;have aX:=U ((((aZ.o.next hb1).next hb2).next hb3).next hb4);have Cr:=U ((((bg.o.next hb1).next hb2).next hb3).next hb4);have hB4:=U (Bl.call hB3 hb4);go_wp2;refine dZ (Bl.call hb3 hb4) (rW ?_);have dL:=(aX.o.cell 10).trans HK.o.1;have aCg:=aX.o.free 10;have lx4:=aX.o.lt;clear c10 c11 l1;go_wp2;refine bS _ rfl (iP ?_)
 (repeat(go_big_quiet_step (fail)));refine aH ?_
 intro n1;have aU:=(aX.o.set 10 (.slice a1 s.trace.length c1) (by rw[HL.o];decide)).drewN n1;have PK:=(Cr.o.far (p:=⟨w.heap.size,10,none⟩) aj (.slice a1 s.trace.length c1)).drewN n1;have Iy:=Bl.drewN (Bl.setCell hB4.o (p:=⟨w.heap.size,10,none⟩) aj (.slice a1 s.trace.length c1)) n1;have ai3:=jB (oU ai1 (p:=⟨w.heap.size,10,none⟩) auc (.slice a1 s.trace.length c1)) n1;have ai5:=jB (oU hO2 (p:=⟨w.heap.size,10,none⟩) aud (.slice a1 s.trace.length c1)) n1;have x11:=(aU.cell 11).trans ((Ar aW).trans HK.o.2.1);have aCi:=aU.free 11;have lx5:=aU.lt;go_wp2;refine bS _ rfl (jl ?_);have bI:=U (aU.set 11 (.slice a2 s.blots.length c2) (by simp only[qW];rw[HL.o];decide));have HY6:=U (PK.far (p:=⟨w.heap.size,11,none⟩) aj (.slice a2 s.blots.length c2));have dD:=U (Bl.setCell Iy (p:=⟨w.heap.size,11,none⟩) aj (.slice a2 s.blots.length c2));have ol:=U (kJ (oU ai3 (p:=⟨w.heap.size,11,none⟩) auc (.slice a2 s.blots.length c2)) (show w.heap.size+2≤_ by have:=hb1.size;have:=bg.o.lt;omega));have bL:=U (kJ (oU ai5 (p:=⟨w.heap.size,11,none⟩) aud (.slice a2 s.blots.length c2)) (show w.heap.size+2≤_ by have:=hb1.size;have:=hb2.size;have:=hb3.size;have:=bg.o.lt;omega))
 clear hO1 hO2 QL ai1 ai3 ai5 aU PK Iy hB3 dL aCg lx4 x11 aCi lx5 hb1 hb2 hb3 hb4;generalize (((w4.setCell ⟨w.heap.size,10,none⟩ (.slice a1 s.trace.length c1)).drewN n1).setCell ⟨w.heap.size,11,none⟩ (.slice a2 s.blots.length c2))=u0 at *;clear aZ bg HB0 aX Cr hB4;have l6:=bI.o.lt;have hs6:=dD.o.size;obtain⟨C,hC⟩:=nm ((cs.set 10 (.slice a1 s.trace.length c1)).set 11 (.slice a2 s.blots.length c2));rw[hC.o]at bI;have Ti:Hid (C[12]?=some vr∧C[13]?=some vs):=U (by rw[←hC.o,Ar aW,Ar aW,Ar aW,Ar aW];exact HK.o.2.2);have Ab:Hid (C.length=18):=U (by rw[←hC.o,qW,qW];exact HL.o);have x12:=(bI.o.cell 12).trans Ti.o.1;have x13:=(bI.o.cell 13).trans Ti.o.2;go_wp2;refine iQ [10,13] [3,7,10,13] 1 [] [(2,[0,1,2,4,5,6],3),(0,[8,9],7),(1,[],10),(0,[11,12],13)] [] [] [(2,[_,_,_,_,_,_],3,_),(0,[_,_],7,_),(1,[],10,_),(0,[_,_],13,_)] [] ?_;refine aH (ku ?_)
 (repeat(go_big_quiet_step (fail)));refine aH ?_
 intro u1 hb1;go_wp2_with fail;refine(aae _ s.drum.1 u1 (aC.below HR.o (Bl.call dD.o hb1)) ae).mono ?_;rintro e u2 ⟨v3,rfl,hO3,hb2⟩;obtain⟨a3,c3,rfl⟩:=bv hO3;go_wp2;refine dZ (Bl.call hb1 hb2) (ku ?_)
 (repeat(go_big_quiet_step (fail)));refine aH ?_
 intro u3 hb3;have hB3:=Bl.call (Bl.call (Bl.call dD.o hb1) hb2) hb3;have ai6:=gV hO3 hb3;go_wp2_with fail;refine(arM _ s.drum.2 u3 (aC.below HS.o hB3) ae).mono ?_;rintro e u4 ⟨v4,rfl,hO4,hb4⟩;obtain⟨a4,c4,rfl⟩:=bv hO4;have ai7:=gV ai6 hb4;have aX:=U ((((bI.o.next hb1).next hb2).next hb3).next hb4);have Cr:=U ((((HY6.o.next hb1).next hb2).next hb3).next hb4);have bX:=U (Bl.call hB3 hb4);have ai2:=gV ol.o (Bl.call (Bl.call (Bl.call hb1 hb2) hb3) hb4);have ai4:=gV bL.o (Bl.call (Bl.call (Bl.call hb1 hb2) hb3) hb4);go_wp2;refine dZ (Bl.call hb3 hb4) (rW ?_);have y12:=(aX.o.cell 12).trans Ti.o.1;have aCo:=aX.o.free 12;have lx4:=aX.o.lt;have hk1:=hb1.size;have hk2:=hb2.size;have hk3:=hb3.size;have hk4:=hb4.size;clear x12 x13 l6;go_wp2;refine bS _ rfl (iP ?_)
 (repeat(go_big_quiet_step (fail)));refine aH ?_
 intro n1;have aU:=(aX.o.set 12 (.slice a3 s.drum.1.length c3) (by rw[Ab.o];decide)).drewN n1;have PK:=(Cr.o.far (p:=⟨w.heap.size,12,none⟩) aj (.slice a3 s.drum.1.length c3)).drewN n1;have Iy:=Bl.drewN (Bl.setCell bX.o (p:=⟨w.heap.size,12,none⟩) aj (.slice a3 s.drum.1.length c3)) n1;have g1:=jB (oU ai2 (p:=⟨w.heap.size,12,none⟩) ic (.slice a3 s.drum.1.length c3)) n1;have g2:=jB (oU ai4 (p:=⟨w.heap.size,12,none⟩) ic (.slice a3 s.drum.1.length c3)) n1;have hly:=HY6.o.lt;have g3:=jB (oU ai7 (p:=⟨w.heap.size,12,none⟩) ic (.slice a3 s.drum.1.length c3)) n1;have g4:=jB (oU hO4 (p:=⟨w.heap.size,12,none⟩) ic (.slice a3 s.drum.1.length c3)) n1;have aCl:=(aU.cell 13).trans ((Ar aW).trans Ti.o.2);have aCm:=aU.free 13;have lx5:=aU.lt;go_wp2;refine bS _ rfl (jl ?_);have bD:=U (aU.set 13 (.slice a4 s.drum.2.length c4) (by rw[qW,Ab.o];decide));have HY7:=U (PK.far (p:=⟨w.heap.size,13,none⟩) aj (.slice a4 s.drum.2.length c4));have iy:=U (Bl.setCell Iy (p:=⟨w.heap.size,13,none⟩) aj (.slice a4 s.drum.2.length c4));have eO:=U (oU g1 (p:=⟨w.heap.size,13,none⟩) ic (.slice a4 s.drum.2.length c4));have HL2:=U (oU g2 (p:=⟨w.heap.size,13,none⟩) ic (.slice a4 s.drum.2.length c4))
 have lI:=U (oU g3 (p:=⟨w.heap.size,13,none⟩) ic (.slice a4 s.drum.2.length c4));have Ag:=U (oU g4 (p:=⟨w.heap.size,13,none⟩) ic (.slice a4 s.drum.2.length c4));clear y12 aCo lx4 g1 g2 g3 g4 aU PK Iy aCl aCm lx5 ai2 ai4 hO3 ai6 ai7 hO4 hB3 aX Cr bX hb1 hb2 hb3 hb4;generalize (((u4.setCell ⟨w.heap.size,12,none⟩ (.slice a3 s.drum.1.length c3)).drewN n1).setCell ⟨w.heap.size,13,none⟩ (.slice a4 s.drum.2.length c4))=u5 at *;have HF:=U (HF.o (.slice a1 s.trace.length c1) (.slice a2 s.blots.length c2) (.slice a3 s.drum.1.length c3) (.slice a4 s.drum.2.length c4));rw[hC.o]at HF;obtain⟨D,hD⟩:=nm ((C.set 12 (.slice a3 s.drum.1.length c3)).set 13 (.slice a4 s.drum.2.length c4));rw[hD.o]at bD HF;have nC:Hid (D.length=18):=U (by rw[←hD.o,qW,qW];exact Ab.o);have HD1:Hid (∀u∈D,u.oneCell'=true):=U (by rw[HF.o];exact Lr rfl rfl rfl rfl);have HC:=U (Cx.whole bD.o);go_wp2_with (first|(refine dh fZ rfl HC.o nC.o ?_)|(refine SS (B:=w.heap.size+1) (o:=0) fZ rfl rfl HY7.o nC.o aW HD1.o ?_))
 have HY8:=U ((HY7.o.cells (o:=0) (cs:=D) RV).val (Wm (by rw[nC.o];rfl)));obtain⟨ct,cf,hco⟩:=HY8.o.obj RV;have hT:aA (λq=>q=w.heap.size+1) u5 (u5.setCells (w.heap.size+1) 0 D):=aA.setCells (own:=λq=>q=w.heap.size+1) rfl D 0 u5;refine kE (Lb results157 _ _ _ ct _ cf _ rfl hco underlying61 rfl aml) rfl ⟨D,_,_,_,_,rfl,HF.o,?_,aA.low iy.o hT (λk e=>ae)⟩;have hm:∀q,w.heap.size+2≤q→w.heap.size≤q:=λq h=>ae;exact⟨Shape.mono _ (Bo NT (e:=115) (fO eO.o hT (λk hk e=>by have:=(eO.o.lt k hk).1;omega))) λq _ h=>hm q h,Shape.mono _ (Bo yD (e:=3) (fO HL2.o hT (λk hk e=>by have:=(HL2.o.lt k hk).1;omega))) λq _ h=>hm q h,Shape.mono _ (Bo mE (e:=41) (fO lI.o hT (λk hk e=>by have:=(lI.o.lt k hk).1;omega))) λq _ h=>by have:u1.heap.size≤q:=h;omega,Shape.mono _ (Bo jC (e:=283) (fO Ag.o hT (λk hk e=>by have:=(Ag.o.lt k hk).1;omega))) λq _ h=>by have:u3.heap.size≤q:=h;omega⟩
def wX(ss:List dx)(i:Nat)(b:Sp)(l:List lG)(m:Nat):List lG:=((l.take m).map (uw ss i b)).filter λe=>decide (e.2.1≤e.2.2)
theorem aru(ss:List dx)(i:Nat)(b:Sp){l:List lG}{m:Nat}(h:m<l.length):wX ss i b l (m+1)=wX ss i b l m++(if(uw ss i b l[m]).2.1≤(uw ss i b l[m]).2.2 then [uw ss i b l[m]]else []):=by
 unfold wX;rw[jF h,iT,wS]
 congr 1
 by_cases e:(uw ss i b l[m]).2.1≤(uw ss i b l[m]).2.2<;>simp[e]
def rz(ss:List dx)(S:List dK)(b:Sp)(j:Nat):List dK:=(List.range S.length).map λi=>if i<j then((aI S i).1,wX ss i b (aI S i).2 (aI S i).2.length)else aI S i
theorem ahu(ss:List dx)(S:List dK)(b:Sp)(j:Nat):(rz ss S b j).length=S.length:=by simp[rz]
theorem arw(ss:List dx)(S:List dK)(b:Sp):rz ss S b 0=S:=by
 refine oD (by simp[rz]) λi h1 h2=>?_;simp[rz,alk h2]
theorem aht(ss:List dx){S:List dK}(b:Sp)(h:j<(rz ss S b j).length):(rz ss S b j)[j]=aI S j:=by simp[rz]
theorem arv(ss:List dx){S:List dK}(b:Sp)(h:j<S.length):rz ss S b (j+1)=(rz ss S b j).set j ((aI S j).1,wX ss j b (aI S j).2 (aI S j).2.length):=by
 refine oD (by simp[rz]) λi h1 h2=>?_;rw[Mw];by_cases e:j=i
 ·subst e;simp[rz]
 ·rw[aD e];simp only[rz,lK,rZ];by_cases h3:i<j
  ·rw[aG h3,aG ae]
  ·rw[aD h3,aD ae]
theorem ahs(ss:List dx)(T:aT)(k:Nat)(b:Sp):T.set k (rz ss (aN T k) b (aN T k).length)=kT ss T k b:=by
 unfold kT
 congr 1
 refine J7 λi hi=>?_;rw[aG (fD.1 hi),wX,jc]
theorem avI:(prog.info? 209).map (λi=>(i.zero,i.size,i.bytes))=some (some (.agg #[.int .i64 0,.int .i64 0,.int .i64 0]),3,24):=aF
theorem ahp(C:Nat)(vs:List Value)(v6 vt:Value)(ss:List dx)(T:aT)(k:Nat)(b1 b2:Int)(w:World)(hX:Bx C vs w)(h6:vs[23]?=some v6)(hs:aC Shape.trip w v6 ss)(ht:aC Shape.nod.list w vt T)(Z:Nat→Prop)(hZ:Shape.nod.list.list.reads Z w [vt] T)(hT:ib T)(hk:k<T.length)
  (hl:(aN T k).length=ss.length) (hkT:k+1<T.length) (hl2:(aN T (k+1)).length=ss.length) (hbb:-100000≤b1∧b1≤100000∧-100000≤b2∧b2≤100000) (hss:∀x∈ss,-8≤x.2.2∧x.2.2≤8) :
  Calls prog 89 #[.pointer (some ⟨C,0,none⟩),.agg #[vt],k,.agg #[b1,b2]] w λe w'=>∃v,e=.returned (.agg #[v])∧aC Shape.nod.list w' v (kT ss T k (b1,b2))∧BL w w'∧Shape.nod.list.list.reads (λq=>Z q∨w.heap.size≤q) w' [v] (kT ss T k (b1,b2)):=by
 have HA:Hid (Shape.nod.list.list.reads (λq=>Z q∧q<w.heap.size) w [vt] T):=U (Shape.nod.list.list.mono hZ λq hq h=>⟨h,hq⟩);clear hZ;have HX:=U hX;have HS:=U hs;have HT:=U hT;have gz:=U hss;have hTl:=hT.len;obtain⟨a,c,rfl,hc1,hc2⟩:=ht.shape;obtain⟨a6,c6,rfl,hf1,hf2⟩:=hs.shape;unfold maxLen at hc2 hf2;have yG:=(hX.cell 23).trans h6;have lC:=hX.lt;have HLEN:=U hl;have aoO:=U hl2;clear hX hs ht hT hss hl hl2;obtain⟨i0,hi,hz0,hz1,hz2⟩:=dY avI;go_in;go_wp2_with fail;have hb0:=Bl.alloc (Bl.alloc (Bl.alloc (aB w.heap.size w) (.cells #[.slice a T.length c] 139)) (.cells #[b1,b2] 41)) (.cells #[.slice none 0 0] 139);have X6:=((Bx.new (W:=w) (t:=139) (vs:=[.slice a T.length c]) rfl).alloc (.cells #[b1,b2] 41)).alloc (.cells #[.slice none 0 0] 139);have X7:=(Bx.new (W:=w.alloc (.cells #[.slice a T.length c] 139)) (B:=w.heap.size+1) (t:=41) (vs:=[.int .i64 b1,.int .i64 b2]) aj).alloc (.cells #[.slice none 0 0] 139);have jf:=Bx.new (W:=(w.alloc (.cells #[.slice a T.length c] 139)).alloc (.cells #[b1,b2] 41)) (B:=w.heap.size+2) (t:=139) (vs:=[.slice none 0 0]) aj
 generalize ((w.alloc (.cells #[.slice a T.length c] 139)).alloc (.cells #[b1,b2] 41)).alloc (.cells #[.slice none 0 0] 139)=w0 at *;refine(ahy _ T w0 _ (Shape.below HA.o hb0) ae).mono ?_;rintro e w1 ⟨u,rfl,hOu,hb1⟩;obtain⟨gu,cu,csu,rfl,hu1,hu2,hu3,Nt,_,_,_,_⟩:=hOu.slot hk;have KF:=Bl.call hb0 hb1;have Pe:=U hOu;clear hOu;have CJ:=X6.next hb1;have Qi:=jf.next hb1;have X7a:=X7.next hb1;have auK:w.heap.size+3≤w0.heap.size:=by have:=jf.lt;omega
 clear X6 X7 jf;have p0:=CJ.cell 0;have l6:=CJ.lt;simp only[aK]at p0;obtain⟨bk,ok,csk,ek,hbk,hAk,Ra,hck⟩:=Shape.list_at HA.o hk;obtain⟨vk,rfl,hvk⟩:=EI.1 Ra;have KH:=hck 0 aW;simp only[aK,show Shape.nod.list.n=1 from rfl,FZ,oI]at KH;subst ek;have qk:=(KF.cell (p:=⟨bk,ok+k,none⟩) hbk).trans KH;obtain⟨ak,ck,rfl,hk1,hk2⟩:=(Shape.list_far hvk).shape;unfold maxLen at hk2;have FJ:=U hvk;clear Ra hck KH hvk;have i1:(0:Int)≤(k:Int):=ae;have i2:(k:Int)<T.length:=ae;have hbk1:bk<w1.heap.size:=by have:=KF.size;omega
 have HST:Hid (aN T k=T[k]):=U (zL hk);have hpos:=(HT.o.pos hk);rw[HST.o]at hpos HLEN;have JV:=FJ.o;obtain⟨S,hS⟩:=nm (T[k]);rw[hS.o]at hpos HLEN JV HST qk;have FJ:=U JV;clear JV;go_wp2_with fail;have hb2:=Bl.alloc KF (.cells #[.slice (some ⟨gu,0,none⟩) T.length cu] 139);refine(ahx _ S _ _ (Shape.below FJ.o hb2) ae).mono ?_;rintro e w2 ⟨us,rfl,hOs,hb3⟩;have pQ:=Bl.call hb2 hb3;obtain⟨gs,rC,_,rfl,hg1,hg2,hg3,hg4,_,_,_,_⟩:=hOs.slot hpos.1;simp only[fH]at hg1;have hw1:=hb1.size
 have Hf:Hid (Own Shape.nod (λq=>q≠gu∧q≠w1.heap.size∧q≠w.heap.size+2∧(Z q∨w.heap.size≤q)) w2 (w1.heap.size+1) 207 (.slice (some ⟨gs,0,none⟩) S.length rC) (rz ss S (b1,b2) 0)):=U (by
  rw[arw];have:=hOs.mono (A':=λq=>q≠gu∧q≠w1.heap.size∧q≠w.heap.size+2∧(Z q∨w.heap.size≤q)) λq _ h=>aub
  simpa only[fH]using this)
 have Pd:=U ((Pe.o.mono (A':=λq=>q≠w1.heap.size∧q≠w.heap.size+2∧q≠gs∧(Z q∨w.heap.size≤q)) λq _ h=>aub).keep (Same.below (Bl.call (Bl.alloc (aB _ _) _) hb3)));have Qj:=(Bx.new (W:=w1) (t:=139) (vs:=[.slice (some ⟨gu,0,none⟩) T.length cu]) rfl).next hb3;have X7:=(X7a.alloc (.cells #[.slice (some ⟨gu,0,none⟩) T.length cu] 139)).next hb3;have jf:=(Qi.alloc (.cells #[.slice (some ⟨gu,0,none⟩) T.length cu] 139)).next hb3;have hzz:w1.heap.size<w2.heap.size:=Qj.lt;clear hOs Pe hb2 hb3 CJ Qi X7a p0 l6 qk hbk1 FJ
 (try unfold BL at *);generalize hB:w1.heap.size=B11 at *
 have HR:=U (aA.refl (λq=>q=gs) w2);go_wp2
 go_loopw [28] (λLh wr=>∃j:Nat,j≤S.length∧Lh=.int .i64 j∧Hid (Own Shape.nod (λq=>q≠gu∧q≠B11∧q≠w.heap.size+2∧(Z q∨w.heap.size≤q)) wr (B11+1) 207 (.slice (some ⟨gs,0,none⟩) S.length rC) (rz ss S (b1,b2) j))∧Hid (aA (λq=>q=gs) w2 wr)) (λLh _=>S.length-(intOf Lh).toNat)
 case atStart=>exact⟨0,tX _,rfl,Hf,HR⟩
 case round=>
  clear Hf HR;obtain⟨j,hj,rfl,HO,HR⟩:=hrel;have HB:=U (aA.below pQ HR.o pQ.size (λq e=>ae));by_cases hlt:j<S.length
  ·have alP:=(HB.o.cell (p:=⟨C,23,none⟩) lC).trans yG;have UQ:=X7.turns HR.o ae;have r70:=UQ.cell 0;have r71:=UQ.cell 1;have r7l:=UQ.lt;simp only[aK,bB]at r70 r71;have hjs:j<ss.length:=aa5;obtain⟨b6,o6,e6,d1,d2,d3⟩:=(HS.o.below HB.o).trip_at (k:=j) hjs;subst e6;obtain⟨g',cap',csj,e',_,hgl,_,_,hrd,hcl',hfr,hst⟩:=HO.o.slot (k:=j) (by rw[ahu];exact hlt);obtain⟨e1,e2,e3⟩:gs=g'∧S.length=(rz ss S (b1,b2) j).length∧rC=cap':=adu;subst e1 e3;rw[aht]at hrd;obtain⟨u1,u2,rfl,hu1,hu2⟩:=zz.1 hrd;have hc1:=hcl' 1 aW;simp only[aK,bB,show Shape.nod.n=2 from rfl]at hc1;have JS:=U (Shape.list_far hu2);obtain⟨a2,c2,rfl,hn1,hn2⟩:=JS.o.shape;unfold maxLen at hn2;have TN:=U hu1;have wK:=U (arv ss (b1,b2) hlt);have vE:=HT.o.node k j;have LY:=HT.o.ed k j;rw[HST.o]at vE LY;have hEL:=vE.2.1;have HE:=U vE.2.2;have HEB:=U LY;obtain⟨E,hE⟩:=nm ((aI S j).2);rw[hE.o]at JS hn1 hc1 hEL HE HEB;clear hrd hcl' hst hfr e' e2 vE LY hu1 hu2;have hlC:=(HB.o.size:w.heap.size≤wr.heap.size);have i3:(0:Int)≤(j:Int):=ae;have i4:(j:Int)<S.length:=ae;have i5:(j:Int)<ss.length:=ae;have hoj:=gz.o _ (eu hjs);have Fv:Hid (mY ss j=(ss[j]'hjs).2.2):=U azT;generalize (ss[j]'hjs).2.2=alr at *;have hd3:=lt_of_cell d3
   go_wp2_with fail;obtain⟨wo,hwo⟩:∃wo,wo=wr:=⟨_,rfl⟩;subst hwo
   go_loopw [12,37] (λs12 s37 wi=>∃m:Nat,m≤E.length∧s37=.int .i64 m∧Hid (qF 209 wo.heap.size wi s12 (wX ss j (b1,b2) E m))∧Hid (BL wo wi)) (λ_ s37 _=>E.length-(intOf s37).toNat)
   case atStart=>exact⟨0,tX _,rfl,U (Di (by simp[wX])),U (aB _ _)⟩
   case round=>
    obtain⟨m,hm,rfl,HQ,HI⟩:=hrel;by_cases hlm:m<E.length
    ·have Cn:=U (Bl.call HB.o HI.o);obtain⟨be,oe,ee,f1,f2,f3⟩:=(JS.o.below HI.o).trip_at hlm;subst ee;have hb1:=HE.o _ (eu hlm);have hb2:=HEB.o _ (eu hlm);have vC:=U (aru ss j (b1,b2) hlm);rw[aoO.o]at hb1;generalize E[m]=ed at *;obtain⟨to',lo,hi'⟩:=ed;simp only at f1 f2 f3 hb1 hb2;obtain⟨tn,rfl⟩:∃tn:Nat,to'=(tn:Int):=⟨to'.toNat,ae⟩;have htn:tn<ss.length:=ae;obtain⟨b7,o7,e7,g1,g2,g3⟩:=(HS.o.below Cn.o).trip_at (k:=tn) htn;cases e7;have hot:=gz.o _ (eu htn);have HOT:Hid (mY ss tn=(ss[tn]'htn).2.2):=U (by simp[mY,bN,htn]);generalize (ss[tn]'htn).2.2=alu at *;have y23:=(HI.o.cell (p:=⟨C,23,none⟩) (by show C<_;omega)).trans alP;have y3:=(HI.o.cell (p:=⟨b6,o6+j*3+2,none⟩) hd3).trans d3;have hlw:=HI.o.size;have aDk:=lt_of_cell y3;have lCw:C<wr.heap.size:=ae;have m1:(0:Int)≤(m:Int):=ae;have m2:(m:Int)<E.length:=ae;have m3:(0:Int)≤(tn:Int):=ae;have m4:(tn:Int)<ss.length:=ae;obtain⟨dd,hdd⟩:∃d,Hid (alu-alr=d):=⟨_,U rfl⟩;have hdb:-16≤dd∧dd≤16:=by have:=hdd.o;omega
     have v1:IntKind.i64.wrap (alu-alr)=dd:=by rw[dE _ ae];exact hdd.o
     have v2:IntKind.i64.wrap (b1-dd)=b1-dd:=dE _ ae;have v3:IntKind.i64.wrap (b2-dd)=b2-dd:=dE _ ae;obtain⟨X,hX⟩:∃v,max lo (b1-dd)=v:=⟨_,rfl⟩;obtain⟨Y,hY⟩:∃v,min hi' (b2-dd)=v:=⟨_,rfl⟩
     have Yb:Hid (uw ss j (b1,b2) ((tn:Int),lo,hi')=((tn:Int),X,Y)):=U (by
      unfold uw;simp only[FQ]
      rw[HOT.o,Fv.o,hdd.o,hX,hY])
     go_wp2_with fail;have za:=Bx.new (W:=wr) (t:=209) (vs:=[.int .i64 (tn:Int),.int .i64 lo,.int .i64 hi']) rfl;refine qz aF aF ?_;(repeat(go_big_quiet_step (fail)));refine aH ?_;intro wq hq;have XS:=za.next hq;have hbq:=Bl.call (Bl.alloc (aB wr.heap.size wr) (.cells #[.int .i64 (tn:Int),lo,hi'] 209)) hq;have ZR:=(UQ.next HI.o).next hbq;have s0:=XS.cell 0;have s1:=XS.cell 1;have s2:=XS.cell 2;have sl:=XS.lt;have sf:=XS.free;have k70:=ZR.cell 0;have k71:=ZR.cell 1;have k7l:=ZR.lt;simp only[aK,bB]at s0 s1 s2 k70 k71;have aDU:¬wr.heap.size=w.heap.size+1:=ae
     have Vm:(wX ss j (b1,b2) E m).length≤64:=by
      have h1:=FV (λe:lG=>decide (e.2.1≤e.2.2)) ((E.take m).map (uw ss j (b1,b2)));rw[fC,oF]at h1;unfold wX;omega
     obtain⟨aq,cq,eq'⟩:=lu HQ.o;subst eq';have tq:aA (λq=>q=wr.heap.size) wq ((wq.setCell ⟨wr.heap.size,1,none⟩ (.int .i64 X)).setCell ⟨wr.heap.size,2,none⟩ (.int .i64 Y)):=(aA.setCell (λq=>q=wr.heap.size) _ ⟨wr.heap.size,1,none⟩ _ rfl).trans (aA.setCell (λq=>q=wr.heap.size) _ ⟨wr.heap.size,2,none⟩ _ rfl);have TC:=U (fO (il HQ.o hbq) tq (λq hq e=>by have:=(HQ.o.lt q hq).2;omega));have hbI:=Bl.call HI.o hbq;have abm:=aA.below hbI tq hbI.size (λq e=>ae);rw[Yb.o]at vC;simp only at vC;generalize wX ss j (b1,b2) E m=CL at *;obtain⟨N,hN⟩:=nm CL.length;rw[hN.o]at TC HQ Vm ⊢;by_cases Gp:X≤Y
     ·have t1:decide (X≤Y)=true:=by simpa using Gp
      go_wp2_with (at_builtin;go_loud (refine iE (hnews:=UX aj _ _) (TC.o.alloc _) ⟨wq.heap.size,0,none⟩ 1 1 [.int .i64 (tn:Int),X,Y] hi hz0 hz1 hz2 ?_);intro v' w5 hown' hgrow bY)
      go_roundw
      case rel=>
       refine⟨m+1,ae,aY,U ?_,U ?_⟩
       ·rw[vC.o,aG Gp];exact xk hown' RY rfl
       ·exact aA.below (Bl.alloc abm _) (aA.grown (own:=λq=>wo.heap.size≤q) hgrow (λq hq=>(TC.o.lt q hq).1)) (Bl.alloc abm _).size (λq h=>h)
      case measure=>exact aFF
     ·have t1:decide (X≤Y)=false:=bC;have t2:Y<X:=ae;go_wp2;go_roundw
      case rel=>exact⟨m+1,ae,aY,U (by rw[vC.o,if_neg Gp,List.append_nil];unfold qF jd;rw[hN.o];exact TC.o),U abm⟩
      case measure=>exact aFF
    ·obtain rfl:m=E.length:=ae;have hls:=HI.o.size;have Q8:=HO.o.keep (Same.below HI.o);obtain⟨g7,Z7,cs7,e7,_,abr,_,_,KL,QZ,Q0,Rf⟩:=Q8.slot (k:=j) (by rw[ahu];exact hlt);obtain⟨e1,e2,e3⟩:gs=g7∧S.length=(rz ss S (b1,b2) j).length∧rC=Z7:=by simpa using e7
     subst e1 e3;rw[aht]at KL;obtain⟨u17,u27,rfl,VQ,VR⟩:=zz.1 KL;have sF:=HQ.o;obtain⟨aq,cq,eq'⟩:=lu sF;subst eq';have hql:=HQ.o.lt;have hfin:=Rf 1 (.slice aq (wX ss j (b1,b2) E E.length).length cq) ((aI S j).1,wX ss j (b1,b2) E E.length) aW (zz.2 ⟨_,_,rfl,VQ,xh jC (Jb sF) (λq hq=>by have:=(hql q hq).1;exact⟨⟨ae,ae,ae,.inr ae⟩,ae⟩)⟩);rw[hE.o]at wK;simp only[show Shape.nod.n=2 from rfl]at hfin;rw[←wK.o]at hfin;have yK:=U hfin;have lJ:=U ((HR.o.trans (aA.of_below HI.o)).trans (aA.setCell (λq=>q=gs) _ ⟨gs,j*2+1,none⟩ (.slice aq (wX ss j (b1,b2) E E.length).length cq) rfl));have auC:gs<wr.heap.size:=abr;have hc17:=QZ 1 aW;simp only[aK,bB,show Shape.nod.n=2 from rfl]at hc17;have hfq:=Q0 (j*2+1);clear Rf KL VQ VR hfin Q8 e7 QZ Q0 e2 sF;obtain⟨CL,hCL⟩:∃l,Hid (wX ss j (b1,b2) E E.length=l):=⟨_,U rfl⟩;rw[hCL.o]at yK lJ HQ ⊢;go_wp2;go_roundw
     case rel=>exact⟨j+1,ae,aY,yK,lJ⟩
     case measure=>exact aFF
  ·obtain rfl:j=S.length:=ae;have Qk:=Qj.turns HR.o ae;have F8:=jf.turns HR.o ae;have RP:=Qk.cell 0;have ayg:=Qk.lt;have ayf:=F8.lt;have r10:=F8.cell 0;have aye:=F8.free 0;simp only[aK]at RP r10;have kP:=(Pd.o.keep (HR.o.same (λq h _ e=>ayn))).mono (A':=λq=>q≠B11∧q≠w.heap.size+2∧(Z q∨w.heap.size≤q)) λq _ h=>⟨h.1,h.2.1,h.2.2.2⟩;obtain⟨g',cap',Kq,e',_,hgl,_,_,hrd,hcl',hfr,hst⟩:=kP.slot hk;obtain⟨e1,e2⟩:gu=g'∧cu=cap':=adu;subst e1 e2;have hck:=hcl' 0 aW;have Ew:=hfr k;have hlen1:Kq.length=1:=Shape.nod.list.len hrd
   obtain⟨vo,rfl⟩:∃vo,Kq=[vo]:=by
    match Kq,hlen1 with
    |[x],_=>exact⟨x,rfl⟩
   simp only[aK,show Shape.nod.list.n=1 from rfl,FZ,oI]at hck
   have hfin:=hst 0 (.slice (some ⟨gs,0,none⟩) S.length rC) (rz ss S (b1,b2) S.length) aW (by
    have h1:=HO.o.lst;refine Shape.nod.list.mono h1 λq _ h=>?_;rcases h with h|h
    ·exact⟨⟨h.2.1,h.2.2.1,h.2.2.2⟩,h.1⟩
    ·simp[Value.ownBlock]at h;exact⟨⟨ae,ae,.inr ae⟩,ae⟩)
   simp only[show Shape.nod.list.n=1 from rfl,FZ,oI]at hfin;have DV:=U hfin;have hne1:¬gu=B11:=ae;have hne2:¬B11=gu:=ae;have auW:¬w.heap.size+2=gu:=ae;have auX:¬gu=w.heap.size+2:=ae;have e12:w.heap.size+1+1=w.heap.size+2:=rfl;clear kP hrd hcl' hst hfin hlen1 e';go_wp2_with fail;have Kk:=(F8.far (p:=⟨gu,k,none⟩) (by show ¬gu=_;omega) (.slice (some ⟨gs,0,none⟩) S.length rC)).set 0 (.slice (some ⟨gu,0,none⟩) T.length cu) aj;have SY:=Kk.cell 0;have aCw:=Kk.lt;simp only[Cw,aK]at SY;have DR:=Bl.setCell (Bl.setCell HB.o (p:=⟨gu,k,none⟩) (by show w.heap.size≤gu;omega) (.slice (some ⟨gs,0,none⟩) S.length rC)) (p:=⟨w.heap.size+2,0,none⟩) (by show w.heap.size≤w.heap.size+2;omega) (.slice (some ⟨gu,0,none⟩) T.length cu);have Fv:=(DV.o.keep (w':=(wr.setCell ⟨gu,k,none⟩ (.slice (some ⟨gs,0,none⟩) S.length rC)).setCell ⟨w.heap.size+2,0,none⟩ (.slice (some ⟨gu,0,none⟩) T.length cu)) ((Same.setCell _ _ _).mono λq h=>by rcases h with h|h;exact h.2.1;simp[Value.ownBlock]at h;show q≠w.heap.size+2;omega)).lst;generalize (wr.setCell ⟨gu,k,none⟩ (.slice (some ⟨gs,0,none⟩) S.length rC)).setCell ⟨w.heap.size+2,0,none⟩ (.slice (some ⟨gu,0,none⟩) T.length cu)=wf at *
   obtain⟨tR,uC,qL⟩:=Kk.obj aj;simp only[Cw]at qL;refine kE (Lb results89 _ _ _ tR _ uC _ rfl qL underlying139 rfl aF) rfl ⟨_,rfl,?_,DR,?_⟩
   ·rw[←ahs,HST.o];exact Shape.list_far Fv
   ·rw[←ahs,HST.o];refine Shape.nod.list.list.mono Fv λq _ h=>?_;rcases h with h|h
    ·exact h.2.2
    ·simp[Value.ownBlock]at h;exact .inr ae
end
end Go.Proofs.YtfmckbjeofiegaaGreat
