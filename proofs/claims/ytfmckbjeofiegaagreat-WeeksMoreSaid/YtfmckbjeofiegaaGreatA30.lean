/- Part 30 of a proof. -/
import Derived.Test.YtfmckbjeofiegaaGreatA27
set_option maxRecDepth 100000
set_option maxHeartbeats 16000000
set_option linter.all false
open Go Go.RowKit Go.Proofs.Tryz
namespace Go.Proofs.YtfmckbjeofiegaaGreat
variable {f:aQ}{r z:Int}{i k:Nat}{x:aJ}
section
attribute [local go_sem] Qv
def lX(ss:List dx)(T:aT)(lo:Nat)(y:Sp)(k:Nat):aT:=(List.range k).foldl (λT j=>kT ss T (lo+j) y) T
theorem RF(ss:List dx)(T:aT)(lo:Nat)(y:Sp)(k:Nat):lX ss T lo y (k+1)=kT ss (lX ss T lo y k) (lo+k) y:=by simp[lX,jq,Mv]
theorem aac(ss:List dx)(T:aT)(k:Nat)(y:Sp):(kT ss T k y).length=T.length:=by simp[kT]
theorem ary(ss:List dx)(T:aT)(k:Nat)(y:Sp)(j:Nat):(aN (kT ss T k y) j).length=(aN T j).length:=by
 unfold kT;rw[EW];split
 ·rename_i e;rw[←e.1];simp
 ·rfl
theorem axr(ss:List dx)(T:aT)(lo:Nat)(y:Sp)(h:wV 60 T)(k:Nat):wV 60 (lX ss T lo y k)∧(lX ss T lo y k).length=T.length∧∀j,(aN (lX ss T lo y k) j).length=(aN T j).length:=by
 induction k with
 |zero=>exact⟨h,rfl,λ_=>rfl⟩
 |succ k ih=>rw[RF];exact⟨UZ ih.1 _ _ _,(aac _ _ _ _).trans ih.2.1,λj=>(ary _ _ _ _ _).trans (ih.2.2 j)⟩
theorem aBg(x:aJ)(f:aQ)(st z:Int)(Bt Bc By Cs K:Nat)(cs:List Value)(lo hi:Nat)(y:Sp)(a:Option Addr)(n c:Nat)(T:aT)(w:World)(hx:fM x)(hf:qG x f)(hI:JF x f st Bt Bc By Cs K cs lo hi y w)(hz:Ib x f (T,z))(ht:aC Shape.nod.list w (.slice a n c) T)(hlo:lo≤hi)(hhi:(hi:Int)<x.ticks)(hy:-100000≤y.1∧y.1≤100000∧-100000≤y.2∧y.2≤100000):
  Calls prog 92 #[.agg #[.slice a n c],.pointer (some ⟨Bt,0,none⟩),.pointer (some ⟨Bc,0,none⟩),.pointer (some ⟨By,0,none⟩)] w (oK (kG (lX (aL x f) T lo y (hi+1-lo))) w):=by
 have HI:=U hI;have HZ:=U hz;have jE:=U (Shape.nod.list.list.mono ht (A':=λq=>q≠w.heap.size) λq hq _=>Nat.ne_of_lt hq);have hP:=xY hx hf;have gz:Hid (∀s∈aL x f,-8≤s.2.2∧s.2.2≤8):=U (λs hs=>at6);have htk:=hP.ticks;have wQ:=U hy;have auL:hi<400:=ae;have Af:=U hhi;have dO:=U (axr (aL x f) T lo y hz.nods);obtain⟨y1,y2⟩:=y;clear hI hz ht hP hx hf hhi hy;have X4:=Bx.new (W:=w) (t:=139) (vs:=[.slice a n c]) rfl;have HB0:=U (Bl.alloc (aB w.heap.size w) (.cells #[.slice a n c] 139));go_in;go_wp2_with (with_reducible_and_instances refine dI 7 ?_)
 generalize w.alloc (.cells #[.slice a n c] 139)=w0 at *;refine⟨?_⟩;have aX:Hid (∃a n c,Bx w.heap.size [.slice a n c] w0∧Shape.nod.list.list.reads (λq=>q≠w.heap.size) w0 [.slice a n c] (lX (aL x f) T lo (y1,y2) 0)):=U ⟨a,n,c,X4,Shape.below jE.o HB0.o⟩;have I0:=HI.o.below HB0.o;have c0:=I0.bt.cell 0;have l0:=I0.bt.lt;simp only[aK]at c0;clear X4 I0 jE;go_wp2_with fail;clear c0 l0
 go_loopw [6] (λs6 wr=>∃k:Nat,lo+k≤hi+1∧s6=.int .i64 ((lo+k:Nat):Int)∧Hid (BL w wr)∧Hid (∃a n c,Bx w.heap.size [.slice a n c] wr∧Shape.nod.list.list.reads (λq=>q≠w.heap.size) wr [.slice a n c] (lX (aL x f) T lo (y1,y2) k))) (λs6 _=>hi+1-(intOf s6).toNat)
 case atStart=>exact⟨0,ae,aj,HB0,aX⟩
 case round=>
  clear aX HB0;obtain⟨k,hk,rfl,HB,aX⟩:=hrel;obtain⟨a,n,c,X4,hT⟩:=aX.o;have jE:=U hT;have aX:=U X4;have I:=HI.o.below HB.o;have c1:=I.bt.cell 1;have l1:=I.bt.lt;simp only[aK,bB]at c1;obtain⟨tk,xe⟩:∃t,Hid (lo+k=t):=⟨_,U rfl⟩;rw[xe.o];have wn:IntKind.i64.wrap ((tk:Int)+1)=(tk:Int)+1:=dE _ Nf;clear X4 hT;by_cases hle:tk≤hi
  ·obtain⟨vs,I3⟩:=I.bs;have e0:=I.bc.cell 0;have f0:=I3.cell 0;have g0:=I.by_.cell 0;have g1:=I.by_.cell 1;have h0:=aX.o.cell 0;have le:=I.bc.lt;have lf:=I3.lt;have lg:=I.by_.lt;have lh:=aX.o.lt;simp only[aK,bB]at e0 f0 g0 g1 h0;obtain⟨v6,k1,k2⟩:=I.ch.list;have hlen:=HZ.o.len;dsimp only at hlen;obtain⟨o1,o2,o3⟩:=dO.o k;have wK:Hid (lX (aL x f) T lo (y1,y2) (k+1)=kT (aL x f) (lX (aL x f) T lo (y1,y2) k) tk (y1,y2)):=U (by rw[RF,xe.o]);obtain⟨T',hT'⟩:=nm (lX (aL x f) T lo (y1,y2) k);rw[hT'.o]at wK jE o1 o2 o3;have HC:=U (λ(W:World) (hb:BL wr W)=>ahp K cs v6 (.slice a n c) (aL x f) T' tk y1 y2 W (I.ch.m.bx.next hb) k1 (k2.below hb) (Shape.list_far (Shape.below jE.o hb)) (λq=>q≠w.heap.size) (Shape.below jE.o hb) (o1.trkB ae) KD ((o3 tk).trans (HZ.o.stg tk KD)) KD ((o3 (tk+1)).trans (HZ.o.stg (tk+1) KD)) ⟨wQ.o.1,wQ.o.2.1,wQ.o.2.2.1,wQ.o.2.2.2⟩ gz.o);clear k1 k2 hlen I I3 o1 o2 o3;go_wp2;refine iQ [7,8] [7,8] 0 [] [(0,[0,1,2,3,4,5,6],7),(0,[],8)] [] [] [(0,[_,_,_,_,_,_,_],7,_),(0,[],8,_)] [] ?_;refine aH (iP ?_)
   (repeat(go_big_quiet_step (fail)));refine aH ?_
   intro nq;have hbq:BL wr (wr.drewN nq):=Bl.drewN (aB _ _) nq;go_wp2_with fail;refine(HC.o _ hbq).mono ?_;rintro e w1 ⟨v,rfl,hv,hb1,hv2⟩;obtain⟨a1,c1',rfl,_,_⟩:=hv.shape;have hsz:=hbq.size;have HV:=U (Shape.nod.list.list.mono hv2 (A':=λq=>q≠w.heap.size) λq _ h=>by rcases h with h|h;exact h;show q≠_;omega);have HB1:=U (Bl.call HB.o (Bl.call hbq hb1));have X:=aX.o.next (Bl.call hbq hb1);have HX:=U X;clear hv hbq hb1 hv2 hsz;generalize (kT (aL x f) T' tk (y1,y2)).length=nn at *;have xl:=X.lt;have xc:=X.cell 0;have xf:=X.free 0;simp only[aK]at xc;clear X;go_wp2;refine bS _ rfl (rW ?_);go_wp2;refine bS _ rfl (jl ?_);go_wp2;go_roundw
   case rel=>exact⟨k+1,Nf,ay9,U (Bl.setCell HB1.o (p:=⟨w.heap.size,0,none⟩) (aV _) _),U ⟨a1,nn,c1',HX.o.set 0 _ aj,by rw[wK.o];exact Shape.nod.list.list.keep HV.o ((Same.setCell _ _ _).mono λ_ h=>h)⟩⟩
   case measure=>exact aFF
  ·obtain⟨u,hu⟩:=nm (hi+1-lo);rw[hu.o];obtain rfl:k=u:=by have:=xe.o;have:=hu.o;omega
   have h0:=aX.o.cell 0;have lh:=aX.o.lt;simp only[aK]at h0;have HN:=U ((dO.o k).1.trkB ae);obtain⟨T',hT'⟩:=nm (lX (aL x f) T lo (y1,y2) k);rw[hT'.o]at jE HN ⊢;go_wp2_with fail;refine(adV a n c T' wr (Shape.list_far jE.o) HN.o).mono ?_;rintro e w2 ⟨rfl,hb2⟩;have HB2:=U (Bl.call HB.o hb2);obtain⟨q,hq⟩:=nm (kG T');rw[hq.o];clear hb2;go_wp2;go_ret;exact⟨bu (by first|exact hq.o.symm|(rw[hu.o,hT'.o,hq.o])|trace_state),HB2.o⟩
def QC(x:aJ)(f:aQ)(L:List Sp)(lo hi:Nat)(r:Int):Int:=MU ((bT x f f.station x.term.toNat L false).map (·.1)) (λT=>xR (aL x f) T lo hi (wH r)) (λT=>kG (lX (aL x f) T lo (vS r) (hi+1-lo)))
def Te(x:aJ)(i lo hi:Nat)(r:Int)(n:Int):Prop:=∃f L,x.sheets[i]?=some f∧qH x i L∧n=QC x f L lo hi r
theorem aBD(x:aJ)(i B lo hi:Nat)(r:Int)(w:World)(hx:fM x)(hfit:Fits x)(hin:i<x.sheets.length)(hR:RegionAt x B w)(hlo:lo≤hi)(hhi:(hi:Int)<x.ticks)(hr1:-400≤r)(hr2:r≤400):
  Calls prog 47 #[.pointer (some ⟨B,0,none⟩),i,.agg #[lo,hi],r] w λe w'=>∃n,Te x i lo hi r n∧e=.returned (.int .i64 n)∧BL w w':=by
 obtain⟨f,hf⟩:∃f,x.sheets[i]?=some f:=⟨_,di hin⟩;have hm:f∈x.sheets:=qX hf;have hsh:=hx.sht hm;have cO:=hfit f hm;have hll:=V3 x hx hsh cO;obtain⟨q,o,c,vs,cx,jh,hWC,hvs,hst⟩:=hR.regW ae;obtain⟨C,uE,K,cs,vh,vt,hC2,hK,-,-⟩:=hst i f hf;have hns:=hx.sheets;have Mh:=U hR;have HK:=U hK;have tF:=U hC2;have HX:=U (And.intro hx (And.intro hfit (And.intro hsh (And.intro cO hf))));have HRW:=U jh;have dX:=jh.s9;have lq:=fe _ _ uE;have c9:=(jh.bx.cell 9).trans dX;have lB:=jh.bx.lt;obtain⟨n,hn⟩:=nm x.sheets.length;rw[hn.o]at c9 hin hns;have i1:(0:Int)≤(i:Int):=ae;have i2:(i:Int)<(n:Int):=ae;have Af:=U hhi;obtain⟨y1,y2,hy⟩:∃a b,Hid (wH r=(a,b)):=⟨_,_,U rfl⟩;obtain⟨n1,n2,hno⟩:∃a b,Hid (vS r=(a,b)):=⟨_,_,U rfl⟩
 have wQ:Hid (-100000≤y1∧y1≤100000∧-100000≤y2∧y2≤100000):=U (by
  have h:=hy.o;unfold wH at h
  split at h<;>(obtain⟨rfl,rfl⟩:=Prod.mk.inj h;omega))
 have O7:Hid (-100000≤n1∧n1≤100000∧-100000≤n2∧n2≤100000):=U (by
  have h:=hno.o;unfold vS at h
  split at h<;>(obtain⟨rfl,rfl⟩:=Prod.mk.inj h;omega))
 have DW:=U (λW=>aBE r W hr1 hr2);rw[hy.o,hno.o]at DW;have X6:=Bx.new (W:=w) (t:=41) (vs:=[.int .i64 lo,.int .i64 hi]) rfl;have HB0:=U (Bl.alloc (aB w.heap.size w) (.cells #[lo,hi] 41));clear hx hfit hR hsh cO hf jh hst hWC hvs hK hC2 dX hhi hm;go_in;go_wp2_with (with_reducible_and_instances refine dI 14 ?_)
 generalize w.alloc (.cells #[lo,hi] 41)=w0 at *;refine⟨?_⟩;have bI:=U X6;have d9:=(HB0.o.cell (p:=⟨B,9,none⟩) lB).trans c9;have dC:=(HB0.o.cell (p:=⟨q,o+i,none⟩) lq).trans uE;have z0:=HB0.o.size;clear X6 c9 uE;go_wp2_with fail;refine(DW.o _).mono ?_;rintro e w1 ⟨rfl,hb1⟩;have fF:=U ((Bx.new (W:=w0) (t:=97) (vs:=[.pointer (some ⟨C,0,none⟩)]) rfl).next hb1);have HB1:=U (Bl.call (Bl.alloc HB0.o (.cells #[.pointer (some ⟨C,0,none⟩)] 97)) hb1);have TZ:=U ((bI.o.alloc (.cells #[.pointer (some ⟨C,0,none⟩)] 97)).next hb1);obtain⟨Bc,kW⟩:∃b,Hid (b=w0.heap.size):=⟨_,U rfl⟩;rw[←kW.o]at fF ⊢;clear hb1 d9 dC;go_wp2_with fail;have Zd:=U ((Bx.new (W:=w1) (t:=41) (vs:=[.int .i64 y1,.int .i64 y2]) rfl).alloc (.cells #[n1,n2] 41));have PD:=U (Bx.new (W:=w1.alloc (.cells #[y1,y2] 41)) (B:=w1.heap.size+1) (t:=41) (vs:=[.int .i64 n1,.int .i64 n2]) aj);have HB2:=U (Bl.alloc (Bl.alloc HB1.o (.cells #[y1,y2] 41)) (.cells #[n1,n2] 41));have zX:=U (Bl.alloc (Bl.alloc (aB w1.heap.size w1) (.cells #[y1,y2] 41)) (.cells #[n1,n2] 41));generalize (w1.alloc (.cells #[y1,y2] 41)).alloc (.cells #[n1,n2] 41)=w2 at *
 have HI1:Hid (JF x f f.station w.heap.size Bc w1.heap.size C K cs lo hi (y1,y2) w2):=U ⟨TZ.o.next zX.o,fF.o.next zX.o,⟨_,tF.o.next HB2.o⟩,Zd.o,HK.o.below HB2.o⟩;have HI2:Hid (JF x f f.station w.heap.size Bc (w1.heap.size+1) C K cs lo hi (n1,n2) w2):=U ⟨TZ.o.next zX.o,fF.o.next zX.o,⟨_,tF.o.next HB2.o⟩,PD.o,HK.o.below HB2.o⟩;refine(aBR x f i B w2 HX.o.1 HX.o.2.1 HX.o.2.2.2.2 (Mh.o.below HB2.o)).mono ?_;rintro e w3 ⟨Br,Bi,Bt,aw,cw,L,rfl,hT,hLI,hb3⟩;have HT:=U hT;have HLI:=U hLI;have HB3:=U (Bl.call HB2.o hb3);have BJ:=U hb3;clear hT hLI hb3;have Ns:=HX.o.1.term;have Hd:=U HLI.o.lim.nrm
 have HM:=U (λT (h:T∈(bT x f f.station x.term.toNat L false).map (·.1))=>show ∃z,Ib x f (T,z)from by
  obtain⟨p,hp,rfl⟩:=dz.1 h
  exact⟨p.2,GL HX.o.1 HX.o.2.2.1 HX.o.2.2.2.1 (λ_=>Hd.o) hp⟩)
 go_wp2_with fail;have qC:=U (λn=>awD x f i B Br Bi Bt aw cw L n w3 HLI.o HX.o.1 HX.o.2.2.1 HX.o.2.2.2.1 hll x.term.toNat ae ae)
 have zZ:Hid (∀W a n c T,BL w3 W→T∈(bT x f f.station x.term.toNat L false).map (·.1)→aC Shape.nod.list W (.slice a n c) T→Calls prog 87 (#[.agg #[.slice a n c]]++#[.pointer (some ⟨w.heap.size,0,none⟩),.pointer (some ⟨Bc,0,none⟩),.pointer (some ⟨w1.heap.size,0,none⟩)]) W (oK (xR (aL x f) T lo hi (y1,y2)) W)):=U (by
  intro W a n c T hb hT hl;obtain⟨z,hz⟩:=HM.o T hT
  exact aBf x f f.station z w.heap.size Bc w1.heap.size C K cs lo hi (y1,y2) a n c T W HX.o.1 HX.o.2.2.1 (HI1.o.below (Bl.call BJ.o hb)) hz hl hlo Af.o wQ.o)
 have tF:Hid (∀W a n c T,BL w3 W→T∈(bT x f f.station x.term.toNat L false).map (·.1)→aC Shape.nod.list W (.slice a n c) T→Calls prog 92 (#[.agg #[.slice a n c]]++#[.pointer (some ⟨w.heap.size,0,none⟩),.pointer (some ⟨Bc,0,none⟩),.pointer (some ⟨(w1.heap.size+1),0,none⟩)]) W (oK (kG (lX (aL x f) T lo (n1,n2) (hi+1-lo))) W)):=U (by
  intro W a n c T hb hT hl;obtain⟨z,hz⟩:=HM.o T hT
  exact aBg x f f.station z w.heap.size Bc (w1.heap.size+1) C K cs lo hi (n1,n2) a n c T W HX.o.1 HX.o.2.2.1 (HI2.o.below (Bl.call BJ.o hb)) hz hl hlo Af.o O7.o)
 refine(aBw 148 87 92 #[.pointer (some ⟨Br,0,none⟩),.pointer (some ⟨Bi,0,none⟩),.pointer (some ⟨Bt,0,none⟩)] #[.pointer (some ⟨w.heap.size,0,none⟩),.pointer (some ⟨Bc,0,none⟩),.pointer (some ⟨w1.heap.size,0,none⟩)] #[.pointer (some ⟨w.heap.size,0,none⟩),.pointer (some ⟨Bc,0,none⟩),.pointer (some ⟨(w1.heap.size+1),0,none⟩)] ((bT x f f.station x.term.toNat L false).map (·.1)) (λT=>xR (aL x f) T lo hi (y1,y2)) (λT=>kG (lX (aL x f) T lo (n1,n2) (hi+1-lo))) w3 (fo func148 aF rfl) (fo func87 aF rfl) (fo func92 aF rfl) qC.o zZ.o tF.o).mono ?_;rintro e w4 ⟨rfl,hb4⟩;have bX:=U (Bl.call HB3.o hb4);clear hb4;have xG:Hid (Te x i lo hi r (MU ((bT x f f.station x.term.toNat L false).map (·.1)) (λT=>xR (aL x f) T lo hi (y1,y2)) (λT=>kG (lX (aL x f) T lo (n1,n2) (hi+1-lo))))):=U ⟨f,L,HX.o.2.2.2.2,HT.o,by unfold QC;rw[hy.o,hno.o]⟩;generalize MU ((bT x f f.station x.term.toNat L false).map (·.1)) (λT=>xR (aL x f) T lo hi (y1,y2)) (λT=>kG (lX (aL x f) T lo (n1,n2) (hi+1-lo)))=N at *;go_wp2;go_ret;exact⟨N,xG.o,rfl,bX.o⟩
def sW(x:aJ)(i fr td r:Int):Bool:=decide (0≤i∧i<x.sheets.length)&&(decide (0≤fr)&&(decide (fr<td)&&(decide (td≤x.ticks)&&Gy r)))
theorem aBl(x:aJ)(i fr td r:Int)(Bw B1 B2 B3 B4:Nat)(cx:List Value)(w:World)(hw:Bx Bw cx w)(hs:Bx B1 [i] w)(hfr:Bx B2 [fr] w)(hto:Bx B3 [td] w)(hr:Bx B4 [r] w)(hx:dM w x cx):
  Tc 51 #[.pointer (some ⟨Bw,0,none⟩),.pointer (some ⟨B1,0,none⟩),.pointer (some ⟨B2,0,none⟩),.pointer (some ⟨B3,0,none⟩),.pointer (some ⟨B4,0,none⟩)] (sW x i fr td r) w:=by
 intro W hb;have HC:=U (Cx.whole (hw.next hb));have bE:=U hx.len;have bZ:=U (hx.below hb);have HF:=U (hfr.next hb);have HT:=U (hto.next hb);have HR:=U (hr.next hb);have HW:=U (hw.next hb);have jV:Hid (cx[4]?=some (.int .i64 x.ticks)):=U (by obtain⟨_,_,_,rfl,_⟩:=hx;rfl);have X:=hs.next hb;have s0:=X.cell 0;have ls:=X.lt;simp only[aK]at s0;clear hw hs hx X hfr hto hr hb;go_in;go_wp2_with (refine dh bK rfl HC.o bE.o ?_)
 refine(Xk x cx i W bZ.o).mono ?_;rintro e w2 ⟨rfl,hb2⟩;have f0:=(HF.o.next hb2).cell 0;have lf:=(HF.o.next hb2).lt;have t0:=(HT.o.next hb2).cell 0;have lt:=(HT.o.next hb2).lt;have r0:=(HR.o.next hb2).cell 0;have lr:=(HR.o.next hb2).lt;have w0:=(HW.o.next hb2).cell 4;have lw:=(HW.o.next hb2).lt;rw[jV.o]at w0;simp only[aK]at f0 t0 r0;have HB:=U hb2;clear hb2;by_cases h1:0≤i∧i<x.sheets.length
 ·rw[show decide (0≤i∧i<x.sheets.length)=true from qO];by_cases h2:0≤fr
  ·by_cases h3:fr<td
   ·by_cases h4:td≤x.ticks
    ·have HE:Hid (sW x i fr td r=Gy r):=U (by simp[sW,h1,h2,h3,h4]);have q2:decide (0≤fr)=true:=xw;have q3:decide (fr<td)=true:=EU;have q4:decide (td≤x.ticks)=true:=Jl;go_wp2_with fail;refine(aBL r w2).mono ?_;rintro e w3 ⟨rfl,hb3⟩;obtain⟨q,hq⟩:=nm (Gy r);rw[hq.o];go_wp2;go_ret;exact⟨bu (by rw[HE.o,hq.o]),Bl.call HB.o hb3⟩
    ·have HE:Hid (sW x i fr td r=false):=U (by simp[sW,h4]);have q2:decide (0≤fr)=true:=xw;have q3:decide (fr<td)=true:=EU;have q4:decide (td≤x.ticks)=false:=Jl;go_wp2;go_ret;exact⟨bu HE.o.symm,HB.o⟩
   ·have HE:Hid (sW x i fr td r=false):=U (by simp[sW,h3]);have q2:decide (0≤fr)=true:=xw;have q3:decide (fr<td)=false:=EU;go_wp2;go_ret;exact⟨bu HE.o.symm,HB.o⟩
  ·have HE:Hid (sW x i fr td r=false):=U (by simp[sW,h2]);have q2:decide (0≤fr)=false:=xw;go_wp2;go_ret;exact⟨bu HE.o.symm,HB.o⟩
 ·have HE:Hid (sW x i fr td r=false):=U (by simp[sW,h1]);rw[show decide (0≤i∧i<x.sheets.length)=false from qO];go_wp2;go_ret;exact⟨bu HE.o.symm,HB.o⟩
theorem aBm(x:aJ)(i lo hi B B1 B2 B3 B4:Nat)(td r:Int)(w:World)(hok:fM x)(hfit:Fits x)(hin:i<x.sheets.length)(hR:RegionAt x B w)(hs:Bx B1 [i] w)(hfr:Bx B2 [lo] w)(hto:Bx B3 [td] w)(hr:Bx B4 [r] w)(hd:td-1=hi)(hlo:lo≤hi)(hhi:(hi:Int)<x.ticks)(hr1:-400≤r)(hr2:r≤400):
  Calls prog 53 #[.pointer (some ⟨B,0,none⟩),.pointer (some ⟨B1,0,none⟩),.pointer (some ⟨B2,0,none⟩),.pointer (some ⟨B3,0,none⟩),.pointer (some ⟨B4,0,none⟩)] w λe w'=>(∃v q,e=.returned (.tuple #[v,.int .i64 q]))∧BL w w'∧∃n,Te x i lo hi r n∧e=.returned (.tuple #[.int .i64 n,.int .i64 0]):=by
 have HF:=U (aBD x i B lo hi r w hok hfit hin hR hlo hhi hr1 hr2);have s0:=hs.cell 0;have f0:=hfr.cell 0;have t0:=hto.cell 0;have r0:=hr.cell 0;have ls:=hs.lt;have lf:=hfr.lt;have lt:=hto.lt;have lr:=hr.lt;simp only[aK]at s0 f0 t0 r0;have htk:=hok.ticks;have wn:IntKind.i64.wrap (td-1)=(hi:Int):=by rw[hd];exact dE _ ae
 clear hok hfit hin hR hs hfr hto hr hd hlo hhi hr1 hr2 htk;go_in;go_wp2_with fail;refine HF.o.mono ?_;rintro e w1 ⟨n,hn,rfl,hb⟩;have HN:=U hn;have HB:=U hb;clear hn hb;go_wp2;go_ret2;exact⟨⟨_,_,rfl⟩,HB.o,n,HN.o,rfl⟩
def Uj(ok:Int→Prop)(bad:Prop)(w:World)(e:Ending)(w':World):Prop:=BL w w'∧((∃q,q≠0∧bad∧e=.returned (.tuple #[.int .i64 0,.int .i64 q]))∨(∃n,ok n∧e=.returned (.tuple #[.int .i64 n,.int .i64 0])))
def CF(x:aJ)(i fr td r n:Int):Prop:=dA x=0∧sW x i fr td r=true∧Fits x∧iK x∧Te x i.toNat fr.toNat (td-1).toNat r n
def Qe(x:aJ)(i fr td r:Int):Prop:=¬(dA x=0∧sW x i fr td r=true∧Fits x∧iK x)
theorem Sr{i fr td:Int}(h:sW x i fr td r=true):(0≤i∧i<x.sheets.length)∧0≤fr∧fr<td∧td≤x.ticks∧r≠0∧-400≤r∧r≤400:=by
 unfold sW Gy at h;simp only[bW,dG]at h;omega
theorem adS(x:aJ)(cx:List Value)(i fr td r:Int)(w:World)(hx:dM w x cx):
  Calls prog 19 #[.agg cx.toArray,i,fr,td,r] w (Uj (CF x i fr td r) (Qe x i fr td r) w):=by
 have bZ:=U hx;have bE:=U hx.len;clear hx;go_in;go_wp2_with (with_reducible_and_instances refine dI 13 ?_)
 have HX0:=U (((((Bx.new (W:=w) (B:=w.heap.size) (t:=30) (vs:=cx) rfl).alloc (.cells #[i] 3)).alloc (.cells #[fr] 3)).alloc (.cells #[td] 3)).alloc (.cells #[r] 3));have aZ:=U ((((Bx.new (W:=w.alloc (.cells cx.toArray 30)) (B:=w.heap.size+1) (t:=3) (vs:=[.int .i64 i]) aj).alloc (.cells #[fr] 3)).alloc (.cells #[td] 3)).alloc (.cells #[r] 3));have bg:=U (((Bx.new (W:=(w.alloc (.cells cx.toArray 30)).alloc (.cells #[i] 3)) (B:=w.heap.size+1+1) (t:=3) (vs:=[.int .i64 fr]) aj).alloc (.cells #[td] 3)).alloc (.cells #[r] 3));have bP:=U ((Bx.new (W:=((w.alloc (.cells cx.toArray 30)).alloc (.cells #[i] 3)).alloc (.cells #[fr] 3)) (B:=w.heap.size+1+1+1) (t:=3) (vs:=[.int .i64 td]) aj).alloc (.cells #[r] 3));have aX:=U (Bx.new (W:=(((w.alloc (.cells cx.toArray 30)).alloc (.cells #[i] 3)).alloc (.cells #[fr] 3)).alloc (.cells #[td] 3)) (B:=w.heap.size+1+1+1+1) (t:=3) (vs:=[.int .i64 r]) aj);have HB0:=U (Bl.alloc (Bl.alloc (Bl.alloc (Bl.alloc (Bl.alloc (aB w.heap.size w) (.cells cx.toArray 30)) (.cells #[i] 3)) (.cells #[fr] 3)) (.cells #[td] 3)) (.cells #[r] 3))
 generalize ((((w.alloc (.cells cx.toArray 30)).alloc (.cells #[i] 3)).alloc (.cells #[fr] 3)).alloc (.cells #[td] 3)).alloc (.cells #[r] 3)=w0 at *;refine⟨?_⟩;obtain⟨b4,hb4⟩:∃b,Hid (b=w.heap.size+1+1+1+1):=⟨_,U rfl⟩;rw[←hb4.o]at aX ⊢;obtain⟨b3,hb3⟩:∃b,Hid (b=w.heap.size+1+1+1):=⟨_,U rfl⟩;rw[←hb3.o]at bP ⊢;obtain⟨b2,hb2⟩:∃b,Hid (b=w.heap.size+1+1):=⟨_,U rfl⟩;rw[←hb2.o]at bg ⊢;obtain⟨b1,hb1⟩:∃b,Hid (b=w.heap.size+1):=⟨_,U rfl⟩;rw[←hb1.o]at aZ ⊢;have HC:=U (Cx.whole HX0.o);have af4:=U (bZ.o.below HB0.o);go_wp2_with (refine dh bK rfl HC.o bE.o ?_)
 refine(aBW x cx (sW x i fr td r) 51 53 #[.pointer (some ⟨w.heap.size,0,none⟩),.pointer (some ⟨b1,0,none⟩),.pointer (some ⟨b2,0,none⟩),.pointer (some ⟨b3,0,none⟩),.pointer (some ⟨b4,0,none⟩)] #[.pointer (some ⟨b1,0,none⟩),.pointer (some ⟨b2,0,none⟩),.pointer (some ⟨b3,0,none⟩),.pointer (some ⟨b4,0,none⟩)] (λ_ _ e _=>∃n,CF x i fr td r n∧e=.returned (.tuple #[.int .i64 n,.int .i64 0])) w0 af4.o (λh=>by have:=Sr h;omega) (fo func51 aF rfl) (aBl x i fr td r w.heap.size b1 b2 b3 b4 cx w0 HX0.o aZ.o bg.o bP.o aX.o af4.o) (fo func53 aF rfl) (λh0 hb hfit bY W B hbW hR=>by
  have hq:=Sr hb;obtain⟨n,hn⟩:∃n:Nat,i=n:=⟨i.toNat,ae⟩;obtain⟨lo,hlo⟩:∃n:Nat,fr=n:=⟨fr.toNat,ae⟩;obtain⟨hi,hhi⟩:∃n:Nat,td-1=n:=⟨(td-1).toNat,ae⟩;refine OC (aBm x n lo hi B b1 b2 b3 b4 td r W (ma h0) hfit ae hR (by rw[←hn];exact aZ.o.next hbW) (by rw[←hlo];exact bg.o.next hbW) (bP.o.next hbW) (aX.o.next hbW) hhi ae ae ae ae) ?_;rintro e w' ⟨h1,h2,v,hL,h3⟩
  exact⟨h1,h2,v,⟨h0,hb,hfit,bY,by rw[hn,hlo,hhi];exact hL⟩,h3⟩)).mono ?_
 rintro e w1 ⟨hb1',hP⟩;have HB1:=U (Bl.call HB0.o hb1');clear hb1';rcases hP with⟨h,rfl⟩|⟨h,h2,rfl⟩|⟨h,_,h2,rfl⟩|⟨h,_,h2,h3,rfl⟩|⟨h,_,_,_,W,B,_,_,v,hl,rfl⟩
 ·have HF:=U h;clear h;obtain⟨z,hz⟩:=nm (dA x);rw[hz.o];go_wp2;go_ret2;exact⟨HB1.o,.inl ⟨z,WA,λh=>HF.o h.1,rfl⟩⟩
 ·have HF:=U h2;clear h h2;go_wp2;go_ret2;exact⟨HB1.o,.inl ⟨1,ae,λh=>by have:=h.2.1;rw[HF.o]at this;exact aej this,rfl⟩⟩
 ·have HF:=U h2;clear h h2;go_wp2;go_ret2;exact⟨HB1.o,.inl ⟨2,ae,λh=>HF.o h.2.2.1,rfl⟩⟩
 ·have HF:=U h3;clear h h2 h3;go_wp2;go_ret2;exact⟨HB1.o,.inl ⟨71,ae,λh=>HF.o h.2.2.2,rfl⟩⟩
 ·have HL:=U hl;clear h hl;go_wp2;go_ret2;exact⟨HB1.o,.inr ⟨v,HL.o,rfl⟩⟩
theorem aBe(x:aJ)(cx:List Value)(i tk r:Int)(w:World)(hx:dM w x cx)(ht:-1000000≤tk∧tk≤1000000):
  Calls prog 15 #[.agg cx.toArray,i,tk,r] w (Uj (CF x i tk (tk+1) r) (Qe x i tk (tk+1) r) w):=by
 have bZ:=U hx;have bE:=U hx.len;have wn:IntKind.i64.wrap (tk+1)=tk+1:=dE _ ae;clear hx ht;go_in;go_wp2_with (with_reducible_and_instances refine dI 10 ?_)
 have HX0:=U (Bx.new (W:=w) (t:=30) (vs:=cx) rfl);have HB0:=U (Bl.alloc (aB w.heap.size w) (.cells cx.toArray 30));generalize w.alloc (.cells cx.toArray 30)=w0 at *;refine⟨?_⟩;have HC:=U (Cx.whole HX0.o);go_wp2_with (refine dh bK rfl HC.o bE.o ?_)
 refine(adS x cx i tk (tk+1) r w0 (bZ.o.below HB0.o)).mono ?_;rintro e w1 ⟨hb1',hP⟩;have HB1:=U (Bl.call HB0.o hb1');clear hb1';rcases hP with⟨q,h0,h,rfl⟩|⟨n,h,rfl⟩
 ·have HQ:=U h0;have HF:=U h;clear h h0;go_wp2;go_ret2;exact⟨HB1.o,.inl ⟨q,HQ.o,HF.o,rfl⟩⟩
 ·have HF:=U h;clear h;go_wp2;go_ret2;exact⟨HB1.o,.inr ⟨n,HF.o,rfl⟩⟩
end
structure kS(x y:aJ):Prop where
 stas:y.stas=x.stas
 fixed:y.fixed=x.fixed
 each:y.each=x.each
 term:y.term=x.term
 ticks:y.ticks=x.ticks
 week:y.week=x.week
 len:y.sheets.length=x.sheets.length
 sh:∀(i:Nat) (f g:aQ),x.sheets[i]?=some f→y.sheets[i]?=some g→g.sheet=f.sheet∧g.station=f.station
 al:∀(i:Nat) (f g:aQ),x.sheets[i]?=some f→y.sheets[i]?=some g→∀(st:Int) (ink:List (List Sp)) (last zero:Int) (s:dx) (tick v:Int),Mem v (lM y g st ink last zero s tick)→Mem v (lM x f st ink last zero s tick)
theorem alj{st:Int}{n:Nat}(hk:k<(x.ticks+1).toNat)(hn:n<(aL x f).length):aI (aN (bQ x f st z) k) n=(lM x f st (jP f) (df f).length z ((aL x f).getD n (0,0,0)) k,if(k:Int)<x.ticks then CR (df f) f.sheet.band (oP f ((aL x f).getD n (0,0,0)).2.2) (eY (df f) x.ticks) (((aL x f).getD n (0,0,0)).1,((aL x f).getD n (0,0,0)).2.1)else []):=by
 unfold bQ;rw[EX _ _ _ _ _ k hk,vT amk,lK,bN,di hn];rfl
theorem adF{st:Int}(hk:k<(x.ticks+1).toNat):(aN (bQ x f st z) k).length=(aL x f).length:=by
 unfold bQ;rw[EX _ _ _ _ _ k hk,List.length_map]
section
variable {x y:aJ} (h:kS x y) {i:Nat} {f g:aQ} (hf:x.sheets[i]?=some f) (hg:y.sheets[i]?=some g)
include h hf hg
theorem kS.list:aL y g=aL x f:=by
 show o9 (eY (jg g.sheet.drum) y.ticks) g.sheet.band=o9 (eY (jg f.sheet.drum) x.ticks) f.sheet.band
 rw[(h.sh i f g hf hg).1,h.ticks]
theorem kS.large:gG y g=gG x f:=by unfold gG;rw[(h.sh i f g hf hg).1,h.ticks]
theorem kS.hgt:lS y g=lS x f:=by unfold lS eF;rw[(h.sh i f g hf hg).2,h.stas,h.week]
theorem kS.zeros:iw g=iw f:=by unfold iw;rw[(h.sh i f g hf hg).1]
theorem kS.crs{st:Int}{n:Nat}{c:Nat→Nat×Int}(hn:n<(x.ticks+1).toNat)(hc:qA (bQ y g st z) 0 n c):qA (bQ x f st z) 0 n c:=by
 have hs:=(h.sh i f g hf hg).1;have eI:jP g=jP f:=by show(jY g.sheet.paper g.sheet.trace g.sheet.blots).1=_;rw[hs]
 have eG:df g=df f:=by show jg g.sheet.drum=_;rw[hs]
 have eM:∀o,oP g o=oP f o:=λo=>by unfold oP;rw[hs]
 have key:∀k,k≤n→(∀v,Mem v (aI (aN (bQ y g st z) k) (c k).1).1→Mem v (aI (aN (bQ x f st z) k) (c k).1).1)∧(aI (aN (bQ y g st z) k) (c k).1).2=(aI (aN (bQ x f st z) k) (c k).1).2:=by
  intro k hk;have hky:k<(y.ticks+1).toNat:=by rw[h.ticks];omega
  by_cases hl:(c k).1<(aL x f).length
  ·rw[alj hky (by rw[h.list hf hg];exact hl),alj (show k<(x.ticks+1).toNat from ae) hl];dsimp only;rw[h.list hf hg,eI,eG,eM,h.ticks,hs];exact⟨λv hv=>h.al i f g hf hg _ _ _ _ _ _ v hv,rfl⟩
  ·rw[lW (by rw[adF hky,h.list hf hg];omega),lW (by rw[adF (show k<(x.ticks+1).toNat from ae)];omega)];exact⟨λv hv=>hv,rfl⟩
 exact⟨λk a b=>(key k b).1 _ (hc.al k a b),λk a b=>by have:=hc.ed k a b;rw[(key k ae).2]at this;exact this⟩
theorem kS.own(hx:fM x)(hfit:Fits x)(hy:fM y)(sH:Fits y){v:Int}(hv:Mem v (ko y g)):Mem v (ko x f):=by
 obtain⟨a1,a2⟩:=Bj hx hfit hf;obtain⟨b1,b2⟩:=Bj hy sH hg;have ht:=hx.term;have ht2:=hy.term;unfold ko at hv ⊢;rw[I5 hy b1 b2 ae]at hv;rw[I5 hx a1 a2 ae];obtain⟨z,hz,c,hc,e⟩:=hv;rw[h.ticks,(h.sh i f g hf hg).2]at hc;rw[h.list hf hg,h.term]at e;rw[h.zeros hf hg]at hz;exact⟨z,hz,c,h.crs hf hg ae hc,e⟩
end
theorem kS.get{y:aJ}(h:kS x y)(hf:x.sheets[i]?=some f):∃g,y.sheets[i]?=some g:=by
 have:=(gN.1 hf).1;exact⟨_,di (by rw[h.len];exact this)⟩
theorem kS.back{y:aJ}(h:kS x y){g:aQ}(hg:y.sheets[i]?=some g):∃f,x.sheets[i]?=some f:=by
 have:=(gN.1 hg).1;exact⟨_,di (by rw[←h.len];exact this)⟩
theorem kS.fits{y:aJ}(h:kS x y)(sH:Fits y):Fits x:=by
 intro f hf;obtain⟨i,hi,rfl⟩:=mr hf;have e:x.sheets[i]?=some x.sheets[i]:=di hi;obtain⟨g,hg⟩:=h.get e;rw[←h.large e hg];exact sH g (qX hg)
theorem kS.sol{y:aJ}(h:kS x y)(hx:fM x)(hfit:Fits x)(hy:fM y)(sH:Fits y){m:Nat→Int}(hm:F6 y m):F6 x m:=by
 refine⟨λi f hf=>?_,λi k f f' hf hf'=>?_⟩
 ·obtain⟨g,hg⟩:=h.get hf;obtain⟨v,hv,h1,h2⟩:=hm.mem i g hg;rw[h.hgt hf hg]at h1 h2;exact⟨v,h.own hf hg hx hfit hy sH hv,h1,h2⟩
 ·obtain⟨g,hg⟩:=h.get hf;obtain⟨g',hg'⟩:=h.get hf';have:=hm.wind i k g g' hg hg'
  have e:jW y g g'=jW x f f':=by
   unfold jW eF;rw[(h.sh _ _ _ hf hg).2,(h.sh _ _ _ hf' hg').2,h.stas,h.fixed,h.each]
  rw[e]at this;exact this
theorem kS.ok{y:aJ}(h:kS x y)(hx:dA x=0){i:Int}{l':List (List Sp)}(hl':Eb y i l'):¬PQ x i:=by
 obtain⟨hy,sH,⟨m,hm⟩,g,M,h0,hg,hM,-⟩:=hl';have hfit:=h.fits sH;intro hb;refine hb ⟨hx,⟨h0,?_⟩,hfit,m,h.sol (ma hx) hfit (ma hy) sH hm⟩;have:=(gN.1 hg).1;rw[h.len]at this;omega
end Go.Proofs.YtfmckbjeofiegaaGreat
