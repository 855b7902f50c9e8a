/- Part 16 of a proof. -/
import Derived.Test.YtfmckbjeofiegaaGreatA12
import Derived.Test.YtfmckbjeofiegaaGreatA13
import Derived.Test.YtfmckbjeofiegaaGreatA14
import Derived.Test.YtfmckbjeofiegaaGreatA15
set_option maxRecDepth 100000
set_option maxHeartbeats 16000000
set_option linter.all false
open Go Go.RowKit Go.Proofs.Tryz
namespace Go.Proofs.YtfmckbjeofiegaaGreat
variable {b:Int}{l:List Sp}{cs vs:List Value}{B base c i k o q:Nat}{A:Nat→Prop}{α:Type}{e:TypeId}{v:Value}{w':World}
section
attribute [local go_sem] Qv
theorem ana{a c:Int}{w:World}(h:Hid (dw a b c=true)):Calls prog 160 #[a,b,c] w λe w'=>e=.returned (.bool true)∧w=w':=
 (Oi a b c w).mono λ_ _ h1=>⟨by rw[h1.1,h.o],h1.2⟩
theorem azf(id x y week:Int)(v:Value)(l:List mo)(w:World)(hv:aC Shape.trip w v l)(hl:pR l=true)(hs:UE [(id,x,y,l)])(h0:0≤week)(h1:week≤10000):
  Calls prog 138 #[.agg #[id,x,y,v],week] w (UA (zn l week) 0 w):=by
 obtain⟨a,cp,rfl,hc1,hc2⟩:=hv.shape;unfold maxLen at hc2;have HV:=U hv;have HS:=U hs;have HL:=U hl;clear hv hs hl;have HW:Hid (dw week 0 10000=true):=U adq;go_in;go_wp2_with fail;refine(amr _ [(id,x,y,l)] _ (akZ (cs:=[.int .i64 id,.int .i64 x,.int .i64 y,.slice a l.length cp]) (BD.2 ⟨_,rfl,HV.o.below (Bl.alloc (Bl.alloc (aB _ _) _) _)⟩) aj) HS.o aj).mono ?_;rintro e w1 ⟨rfl,hb⟩;have X0:Bx w.heap.size [id,x,y,.slice a l.length cp] w1:=(((Bx.new (W:=w) (vs:=[.int .i64 id,.int .i64 x,.int .i64 y,.slice a l.length cp]) rfl).alloc _).alloc _).next hb;have X1:Bx (w.heap.size+1) [.int .i64 0,.int .i64 0] w1:=uu;have B1:BL w w1:=Ku;have c0:=X0.cell;have q0:=X0.lt;have aZ:=U X1;clear X0 X1 hb;go_wp2_with fail;refine(ana HW).mono ?_;rintro e w' ⟨rfl,rfl⟩;go_wp2_with fail;refine(azK id x y week _ l _ (HV.o.below B1) HL.o h0).mono ?_;rintro e w2 ⟨rfl,hb2⟩;have X1:=aZ.o.next hb2;have c1:=X1.cell;have z1:=X1.free;have q1:=X1.lt;have B2:=Bl.call B1 hb2;generalize zn l week=g at *;obtain⟨g1,g2⟩:=g;clear X1 hb2 B1 c0 q0;go_wp2;refine kE (v:=.tuple #[.agg #[g1,g2],.int .i64 0]) (by simp[results,results138,go_sem,c1,J9]) rfl ⟨rfl,?_⟩;exact ul
def Gd(fixed each i1 ax ay i2 bx by':Int):Int:=if i1=i2 then 0 else fixed+each*CQ ax ay bx by' / 100
theorem anu(d:Int):∀(f n:Nat),upTo d f n≤n+f
 |0,n=>by simp[upTo]
 |f+1,n=>by unfold upTo;split;have:=anu d f (n+1);omega;omega
theorem ahU(ax ay bx by':Int):0≤CQ ax ay bx by'∧CQ ax ay bx by'≤3000:=by
 have:=anu ((ax-bx)*(ax-bx)+(ay-by')*(ay-by')) 3000 0;unfold CQ WR;omega
theorem azE{i1 ax ay i2 bx by' n:Int}{o1 o2:Option Addr}{n1 c1 n2 c2:Nat}{w:World}{d:Nat}{os:Array Obj}(a1:0≤ax)(a2:ax≤2000)(a3:0≤ay)(a4:ay≤2000)(b1:0≤bx)(b2:bx≤2000)(b3:0≤by')(b4:by'≤2000)(hn:Hid (CQ ax ay bx by'=n)):
  Calls prog 263 #[.agg #[i1,ax,ay,.slice o1 n1 c1],.agg #[i2,bx,by',.slice o2 n2 c2]] (Sort.grow (redrawn w d) os) λe w''=>e=.returned (.int .i64 n)∧∃p:Regrown,w''=Sort.grow (redrawn w p.d) p.os:=by
 rw[←hn.o];exact uZ (azD i1 ax ay i2 bx by' o1 o2 n1 c1 n2 c2 _ a1 a2 a3 a4 b1 b2 b3 b4)
theorem azB(fixed each i1 ax ay i2 bx by':Int)(o1 o2:Option Addr)(n1 c1 n2 c2:Nat)(w:World)(a1:0≤ax)(a2:ax≤2000)(a3:0≤ay)(a4:ay≤2000)(b1:0≤bx)(b2:bx≤2000)(b3:0≤by')(b4:by'≤2000)(hw:BF fixed each=true):
  Calls prog 201 #[.agg #[fixed,each],.agg #[i1,ax,ay,.slice o1 n1 c1],.agg #[i2,bx,by',.slice o2 n2 c2]] w (Eg (Gd fixed each i1 ax ay i2 bx by') w):=by
 simp only[BF,bW,dG]at hw;obtain⟨⟨⟨h1,h2⟩,h3⟩,h4⟩:=hw;obtain⟨D,HD⟩:=nm (CQ ax ay bx by');have hD:0≤D∧D≤3000:=by have:=ahU ax ay bx by';rw[HD.o]at this;exact this
 have HE:Hid (Gd fixed each i1 ax ay i2 bx by'=if i1=i2 then 0 else fixed+each*D / 100):=U (by rw[Gd,HD.o]);have m1:0≤each*D:=yR h3 hD.1;have m2:each*D≤10000*3000:=Hy h4 hD.2 hD.1 ae;have hdv:(each*D).tdiv 100=each*D / 100:=agc m1;obtain⟨M,hM⟩:∃M,M=each*D:=⟨_,rfl⟩;have w1:IntKind.i64.wrap (each*D)=each*D:=dE _ ae;have w2:IntKind.i64.wrap (each*D / 100)=each*D / 100:=dE _ ae;have w3:IntKind.i64.wrap (fixed+each*D / 100)=fixed+each*D / 100:=dE _ ae;clear hM;by_cases hi:i1=i2
 ·have HF:Hid (Gd fixed each i1 ax ay i2 bx by'=0):=U (by rw[HE.o,aG hi]);have t0:(i1==i2)=true:=Oe;clear hi;go_in;go_wp2;go_ret;refine⟨vY,?_⟩;exact ul
 ·have HF:Hid (Gd fixed each i1 ax ay i2 bx by'=fixed+each*D / 100):=U (by rw[HE.o,aD hi]);have t0:(i1==i2)=false:=Oe;clear hi hD;go_in;go_wp2;refine qz aF aF ?_;(repeat(go_big_quiet_step (first|exact azE a1 a2 a3 a4 b1 b2 b3 b4 HD|fail)));refine aH ?_;intro wq hbq;go_wp2;go_ret;refine⟨vY,?_⟩;refine Bl.call ?_ hbq;clear hbq;exact ul
theorem azg(l m1 m2:Int)(w:World)(l1:0≤l)(l2:l≤12000)(h1:0≤m1)(h2:m1≤m2)(h3:m2≤4000):Calls prog 144 #[l,.agg #[m1,m2]] w (UA (eZ l (m1,m2)) 0 w):=by
 have HW:Hid (dw l 0 12000=true):=U adq;have HM:Hid ((decide (0≤m1)&&decide (m1≤m2)&&decide (m2≤4000))=true):=U bC;go_in;go_wp2_with fail;refine(ana HW).mono ?_;rintro e w' ⟨rfl,rfl⟩;go_wp2_with fail;refine((az0 m1 m2 _).mono λe w' h=>(⟨by rw[h.1,HM.o],h.2⟩:e=.returned (.bool true)∧Below _ _ w')).mono ?_;rintro e w1 ⟨rfl,hb⟩;have X0:Bx w.heap.size [m1,m2] w1:=uu;have aZ:Hid (Bx (w.heap.size+1) [.int .i64 0,.int .i64 0] w1):=U uu;have B1:BL w w1:=Ku;have c0:=X0.cell;have q0:=X0.lt;clear X0 hb;go_wp2_with fail;refine(az9 l m1 m2 _ l1 l2 h1 h2 h3).mono ?_;rintro e w2 ⟨rfl,hb2⟩;have X1:=aZ.o.next hb2;have c1:=X1.cell;have z1:=X1.free;have q1:=X1.lt;have B2:=Bl.call B1 hb2;generalize eZ l (m1,m2)=g at *;obtain⟨g1,g2⟩:=g;clear X1 hb2 B1 c0 q0;go_wp2;refine kE (v:=.tuple #[.agg #[g1,g2],.int .i64 0]) (by simp[results,results144,go_sem,c1,J9]) rfl ⟨rfl,?_⟩;exact ul
theorem ak0{s:Shape α}{w:World}{ds:List Value}{x y:α}{t:TypeId}(hr:s.reads (λ_=>True) w cs x)(hq:s.reads (λ_=>True) w ds y)(hB:w.heap.size=B):aC s (w.alloc (.cells (cs++ds).toArray t)) (.slice (some ⟨B,0,none⟩) 2 2) [x,y]:=by
 subst hB;have hl:=s.len hr;refine⟨_,2,rfl,aj,qN,λ_=>⟨w.heap.size,0,rfl,aj,trivial,λk hk=>?_⟩⟩;have hb:=Bl.alloc (aB w.heap.size w) (.cells (cs++ds).toArray t);have hx:=(Bx.new (W:=w) (t:=t) (vs:=cs++ds) rfl).cell;rcases(show k=0∨k=1 from WK)with rfl|rfl
 ·refine⟨cs,Shape.below hr hb,λj hj=>?_⟩;rw[Nat.zero_mul,oI,oJ,hx j,PU ae]
 ·refine⟨ds,Shape.below hq hb,λj hj=>?_⟩;rw[Nat.one_mul,oJ,hx,PV ae,hl,Nat.add_sub_cancel_left]
theorem azh(fixed each i1 ax ay i2 bx by':Int)(v1 v2:Value)(h1 h2:List mo)(w:World)(hv1:aC Shape.trip w v1 h1)(hv2:aC Shape.trip w v2 h2)(hs:UE [(i1,ax,ay,h1),(i2,bx,by',h2)])
  (a1:0≤ax) (a2:ax≤2000) (a3:0≤ay) (a4:ay≤2000) (b1:0≤bx) (b2:bx≤2000) (b3:0≤by') (b4:by'≤2000) (hw:BF fixed each=true) :
  Calls prog 140 #[.agg #[fixed,each],.agg #[i1,ax,ay,v1],.agg #[i2,bx,by',v2]] w λe w'=>
   e=.returned (.tuple #[.int .i64 (Gd fixed each i1 ax ay i2 bx by'),.int .i64 0])∧BL w w':=by
 obtain⟨o1,c1,rfl,_,_⟩:=hv1.shape;obtain⟨o2,c2,rfl,_,_⟩:=hv2.shape;have TP:=U hv1;have Pq:=U hv2;have HS:=U hs;clear hv1 hv2 hs;have HB:=U (λW=>azB fixed each i1 ax ay i2 bx by' o1 o2 h1.length c1 h2.length c2 W a1 a2 a3 a4 b1 b2 b3 b4 hw);have HW:=U hw;clear a1 a2 a3 a4 b1 b2 b3 b4 hw;go_in;go_wp2_with fail;refine(amr _ [(i1,ax,ay,h1),(i2,bx,by',h2)] _ (ak0 (cs:=[.int .i64 i1,.int .i64 ax,.int .i64 ay,.slice o1 h1.length c1]) (ds:=[.int .i64 i2,.int .i64 bx,.int .i64 by',.slice o2 h2.length c2]) (BD.2 ⟨_,rfl,TP.o.below (Bl.alloc (Bl.alloc (Bl.alloc (aB _ _) _) _) _)⟩) (BD.2 ⟨_,rfl,Pq.o.below (Bl.alloc (Bl.alloc (Bl.alloc (aB _ _) _) _) _)⟩) aj) HS.o aj).mono ?_;rintro e w1 ⟨rfl,hb⟩;have X0:Bx w.heap.size [fixed,each] w1:=((((Bx.new (W:=w) (vs:=[.int .i64 fixed,.int .i64 each]) rfl).alloc _).alloc _).alloc _).next hb;have X1:Bx (w.heap.size+1) [i1,ax,ay,.slice o1 h1.length c1] w1:=(((Bx.new (W:=w.alloc _) (B:=w.heap.size+1) (vs:=[.int .i64 i1,.int .i64 ax,.int .i64 ay,.slice o1 h1.length c1]) aj).alloc _).alloc _).next hb
 have X2:Bx (w.heap.size+1+1) [i2,bx,by',.slice o2 h2.length c2] w1:=((Bx.new (W:=(w.alloc _).alloc _) (B:=w.heap.size+1+1) (vs:=[.int .i64 i2,.int .i64 bx,.int .i64 by',.slice o2 h2.length c2]) aj).alloc _).next hb;have B1:BL w w1:=Bl.call (Bl.alloc (Bl.alloc (Bl.alloc (Bl.alloc (aB _ _) _) _) _) _) hb;have p0:=X0.cell;have l0:=X0.lt;have aZ:=U X1;have bg:=U X2;have HX0:=U X0;clear X0 X1 X2 hb;go_wp2_with fail;refine(am9 fixed each _).mono ?_;rw[HW.o];rintro e w2 ⟨rfl,hb2⟩;have X0:=HX0.o.next hb2;have X1:=aZ.o.next hb2;have X2:=bg.o.next hb2;have p0:=X0.cell;have l0:=X0.lt;have p1:=X1.cell;have l1:=X1.lt;have p2:=X2.cell;have l2:=X2.lt;have B2:=Bl.call B1 hb2;clear X0 X1 X2 hb2 B1;go_wp2_with fail;refine(HB.o _).mono ?_;rintro e w3 ⟨rfl,hb3⟩;go_wp2;refine kE (Ws rfl _ _ _) rfl ⟨rfl,Bl.call B2 hb3⟩
theorem al3(B q o n c C:Nat)(k:Nat)(vs cs:List Value)(level m1 m2:Int)(w:World)(hX:Bx B vs w)(h9:vs[9]?=some (.slice (some ⟨q,o,none⟩) n c))(hk:k<n)(hn:n≤1000000)(hp:w.cell? ⟨q,o+k,none⟩=some (.pointer (some ⟨C,0,none⟩)))
  (hC:Bx C cs w) (c1:cs[5]?=some (.int .i64 m1)) (c2:cs[6]?=some (.int .i64 m2)) (l1:0≤level) (l2:level≤12000) (h1:0≤m1) (h2:m1≤m2) (h3:m2≤4000) :
  Calls prog 84 #[.pointer (some ⟨B,0,none⟩),k,level] w (Kc (eZ level (m1,m2)) w):=by
 have x9:=(hX.cell 9).trans h9;have y1:=(hC.cell 5).trans c1;have y2:=(hC.cell 6).trans c2;have lB:=hX.lt;have lC:=hC.lt;have lq:=fe _ _ hp;dsimp only at lq;have i1:(0:Int)≤(k:Int):=ae;have i2:(k:Int)<n:=ae;have HS:=U (λW=>azg level m1 m2 W l1 l2 h1 h2 h3);clear hX hC h9 c1 c2 l1 l2 h1 h2 h3;go_in;go_wp2_with fail;refine(HS.o _).mono ?_;rintro e w1 ⟨rfl,hb1⟩;have XR:=(Bx.new (W:=w) (t:=41) (vs:=[.int .i64 0,.int .i64 0]) rfl).next hb1;have B1:BL w w1:=Bl.call (Bl.alloc (aB _ _) _) hb1;have r0:=XR.cell;have r1:=XR.free;have r2:=XR.lt;have PE:=U XR;clear XR hb1;generalize eZ level (m1,m2)=s at *;obtain⟨s1,s2⟩:=s;go_wp2_with fail;have XF:=((PE.o.set 0 (.int .i64 s1) aj).set 1 (.int .i64 s2) aj).alloc (.cells #[s1,s2] 41);have f0:=XF.cell;simp only[Cw,Ed]at f0;clear XF PE r0 r1;refine kE (v:=.agg #[s1,s2]) (by simp[results,results84,go_sem,f0]) rfl ⟨rfl,?_⟩;exact Bl.alloc (Bl.setCell (Bl.setCell B1 aj _) aj _) _
def sD(h:Sp)(l:List Sp)(k:Nat):List Sp:=(uP (l.take k)).map λn=>eZ n h
def vL(h:Sp)(lo:Int)(j:Nat):List Sp:=(List.range j).map λ(i:Nat)=>eZ (lo+(i:Int)) h
theorem ahQ(h:Sp)(hk:k<l.length):sD h l (k+1)=sD h l k++vL h l[k].1 (l[k].2+1-l[k].1).toNat:=by
 unfold sD vL uP;rw[jF hk,mO,iT];simp only[jN,J5,ow,Au];rfl
theorem asj(h:Sp)(lo:Int)(j:Nat):vL h lo (j+1)=vL h lo j++[eZ (lo+(j:Int)) h]:=by simp[vL,jq]
theorem ahP(h:Sp)(l:List Sp):∀ {k m:Nat},k≤m→m≤l.length→(sD h l k).length≤(sD h l m).length
 |k,0,h1,_=>by obtain rfl:k=0:=ae;exact aV _
 |k,m+1,h1,h2=>by
  by_cases e:k=m+1
  ·subst e;exact aV _
  ·have:=ahP h l (show k≤m from ae) ae;rw[ahQ h (show m<l.length from ae),dn];omega
theorem azF{n m1 m2:Int}(l1:0≤n)(l2:n≤12000)(h1:0≤m1)(h2:m1≤m2)(h3:m2≤4000):-100000≤(eZ n (m1,m2)).1∧(eZ n (m1,m2)).1≤(eZ n (m1,m2)).2∧(eZ n (m1,m2)).2≤100000:=by
 have a:=R8 l1 h1;have b:=R8 l1 h2;have c:=R8 l1 h3;have d:sP n 0=n:=by simp[sP]
 have e:sP n 4000≤100000:=by unfold sP;omega
 dsimp only[eZ];omega
theorem ayv(B q o n c C:Nat)(k0:Nat)(vs cs:List Value)(vl:Value)(levels:List Sp)(m1 m2:Int)(w:World)(hX:Bx B vs w)(h9:vs[9]?=some (.slice (some ⟨q,o,none⟩) n c))(hk0:k0<n)(hn0:n≤1000000)(hp:w.cell? ⟨q,o+k0,none⟩=some (.pointer (some ⟨C,0,none⟩)))
  (hC:Bx C cs w) (g1:cs[5]?=some (.int .i64 m1)) (g2:cs[6]?=some (.int .i64 m2)) (h1:0≤m1) (h2:m1≤m2) (h3:m2≤4000) (hv:aC Shape.span w vl levels) (hlv:∀s∈levels,0≤s.1∧s.2≤12000) (hn:(sD (m1,m2) levels levels.length).length≤1000000) :
  Calls prog 143 #[.pointer (some ⟨B,0,none⟩),k0,vl] w λe w'=>∃v,e=.returned v∧bG w.heap.size w' v (zi (m1,m2) levels)∧BL w w':=by
 obtain⟨a,ca,rfl,hc1,hc2⟩:=hv.shape;unfold maxLen at hc2;have HF:Hid (zi (m1,m2) levels=norm (sD (m1,m2) levels levels.length)):=by unfold zi sD;rw[List.take_length];exact U rfl
 have HV:=U hv;have Ma:=U hlv;have HN:=U hn;have lq:=fe _ _ hp;dsimp only at lq;have YV:=U (λW (hb:BL w W) level (l1:0≤level) (l2:level≤12000)=>al3 B q o n c C k0 vs cs level m1 m2 W (hX.next hb) h9 hk0 hn0 ((hb.cell (p:=⟨q,o+k0,none⟩) lq).trans hp) (hC.next hb) g1 g2 l1 l2 h1 h2 h3)
 have yL:=U (λ(s:Sp) (h:s∈sD (m1,m2) levels levels.length)=>show -100000≤s.1∧s.1≤s.2∧s.2≤100000 from by
  unfold sD at h;rw[jc]at h;obtain⟨x,hx,rfl⟩:=dz.1 h;obtain⟨t,ht,hx1,hx2⟩:=NP.1 hx;have:=hlv t ht
  exact azF ae ae h1 h2 h3)
 clear hX h9 hk0 hn0 hp hC g1 g2 h1 h2 h3 hv hlv hn lq;obtain⟨i0,hi,hz0,hz1,hz2⟩:=dY zu;go_in;go_wp2
 go_loopw [7,13] (λou iv wr=>∃k:Nat,k≤levels.length∧iv=.int .i64 k∧Hid (bG w.heap.size wr ou (sD (m1,m2) levels k))∧BL w wr) (λ_ iv _=>levels.length-(intOf iv).toNat)
 case atStart=>exact⟨0,ae,rfl,U (yC (by simp[sD,uP])),aB _ _⟩
 case round=>
  obtain⟨k,hk,rfl,HO,hb⟩:=hrel;obtain⟨a5,c5,rfl⟩:=bv HO.o;by_cases hlt:k<levels.length
  ·obtain⟨q1,o1,e1,c1,c2⟩:=(HV.o.below hb).span_at hlt;have HT:=U (ahQ (m1,m2) hlt);have hln:=ahP (m1,m2) levels (show k+1≤levels.length from ae) (aV _);have hN1:=HN.o;rw[HT.o,dn]at hln;have hB:=Ma.o _ (eu hlt);generalize levels[k]=s at *;obtain⟨s0,s1⟩:=s;simp only at c1 c2 hB HT hln;subst e1;have i1:(0:Int)≤(k:Int):=ae;have i2:(k:Int)<levels.length:=ae;have hrl:(vL (m1,m2) s0 (s1+1-s0).toNat).length=(s1+1-s0).toNat:=by simp[vL]
   rw[hrl]at hln;generalize hM:sD (m1,m2) levels k=M at *;have au1:M.length+(s1+1-s0).toNat≤1000000:=ae;clear hln hN1 hrl;obtain⟨S,hS⟩:∃S,S=wr.heap.size:=⟨_,rfl⟩;have za:=U (Bx.new (W:=wr) (B:=S) (t:=41) (vs:=[.int .i64 s0,.int .i64 s1]) hS.symm);have vD:Hid (∀q,(Value.slice a5 M.length c5).ownBlock=some q→q≠S):=U (λq hq=>aji);have xK:=U (fq HO.o (Bl.alloc (aB wr.heap.size wr) (.cells #[s0,s1] 41)));have hbS:=Bl.alloc hb (.cells #[s0,s1] 41);go_wp2;rw[←hS];have hSl:w.heap.size≤S:=QT;clear c1 c2 HO hb hM
   go_loopw [7,10] (λou jv wi=>∃j:Nat,j≤(s1+1-s0).toNat∧jv=.int .i64 (s0+j)∧Hid (bG w.heap.size wi ou (M++vL (m1,m2) s0 j))∧BL w wi∧Hid (Bx S [s0,s1] wi)∧Hid (∀q,ou.ownBlock=some q→q≠S)) (λ_ jv _=>(s1+1-intOf jv).toNat)
   case atStart=>exact⟨0,ae,aj,by simpa[vL]using xK,hbS,za,vD⟩
   case round=>
    clear xK za vD hbS hS;obtain⟨j,hj,rfl,HO,hb,XS,qB⟩:=hrel;obtain⟨a6,c6,rfl⟩:=bv HO.o;have q0:=XS.o.cell 0;have q3:=XS.o.cell 1;have ql:=XS.o.lt;simp only[aK,bB]at q0 q3;by_cases hlj:j<(s1+1-s0).toNat
    ·have dj:decide (s0+(j:Int)≤s1)=true:=bC;have jE:Hid (M++vL (m1,m2) s0 (j+1)=(M++vL (m1,m2) s0 j)++[eZ (s0+(j:Int)) (m1,m2)]):=U (by rw[asj,yS]);have hcl:(vL (m1,m2) s0 j).length=j:=by simp[vL]
     have hlen:(M++vL (m1,m2) s0 j).length≤1000000:=ami;have CALL:=U (YV.o wr hb (s0+(j:Int)) ae ae);generalize eZ (s0+(j:Int)) (m1,m2)=g at *;obtain⟨g1,g2⟩:=g;generalize M++vL (m1,m2) s0 j=Z at *;have KA:IntKind.i64.wrap (s0+(j:Int)+1)=s0+(j:Int)+1:=dE _ ae;go_wp2_with fail;refine CALL.o.mono ?_;rintro e w1 ⟨rfl,hb1⟩;have bL:=U (fq HO.o hb1);have Ie:=U (XS.o.next hb1);have hb2:=Bl.call hb hb1;have hsz:=hb2.size;have hsl:=Ie.o.lt;clear CALL;go_wp2_with (at_builtin;go_loud (refine iE (bL.o.alloc _) ⟨w1.heap.size,0,none⟩ 1 1 [g1,g2] hi hz0 hz1 hz2 ?_);intro v' w4 hown' hgrow bY)
     have fu:=U (wW hown' rfl);have hb4:=MK bL.o hgrow hb2 (aV _);have Gb:=U ((Ie.o.alloc _).grown hgrow (λe=>qB.o S e.symm rfl))
     have YA:Hid (∀q,v'.ownBlock=some q→q≠S):=U (λq hq=>by
      rcases bY with e|⟨k',e,hle⟩
      ·exact qB.o q (e ▸ hq)
      ·rw[hq]at e;cases e;simp at hle;omega)
     clear hown' hgrow bY;go_roundw
     case rel=>exact⟨j+1,ae,aia,by rw[jE.o];exact fu,hb4,Gb,YA⟩
     case measure=>exact aFF
    ·have dj:decide (s0+(j:Int)≤s1)=false:=bC;have hjj:j=(s1+1-s0).toNat:=ae;have HE:Hid (bG w.heap.size wr (.slice a6 (M++vL (m1,m2) s0 j).length c6) (sD (m1,m2) levels (k+1))):=U (by rw[HT.o,←hjj];exact HO.o);clear HO;go_wp2;go_roundw
     case rel=>exact⟨k+1,ae,aY,HE,hb⟩
     case measure=>exact aFF
  ·have hkk:k=levels.length:=ae;rw[←hkk]at HF yL HN;have hsz:=hb.size;generalize sD (m1,m2) levels k=M at *;have HG:=U (together _ M wr (jT HO.o) (fK HN.o ae) yL.o);go_wp2_with fail;refine HG.o.mono ?_;rintro e w2 ⟨v,rfl,hO,hb2⟩;have HR:=U hO;clear hO;go_wp2;go_ret;refine⟨_,rfl,?_,Bl.call hb hb2⟩;rw[HF.o];exact kJ HR.o hsz
theorem Rj:(prog.info? 54).map (λi=>(i.zero,i.size,i.bytes))=some (some (.slice none 0 0),1,24):=aF
def yh(hs:Nat→Sp)(levels:List (List Sp))(k:Nat):List (List Sp):=(List.range k).map λi=>zi (hs i) (aP levels i)
def ShAt(q o:Nat)(hs:Nat→Sp)(w:World)(i:Nat):Prop:=
 ∃C cs,w.cell? ⟨q,o+i,none⟩=some (.pointer (some ⟨C,0,none⟩))∧Bx C cs w∧cs[5]?=some (.int .i64 (hs i).1)∧cs[6]?=some (.int .i64 (hs i).2)∧0≤(hs i).1∧(hs i).1≤(hs i).2∧(hs i).2≤4000
theorem K7{s:Shape α}{w:World}{xs:List α}(h:Own s A w base e v xs):∃cs,w.ownsRow base e s.n v xs.length cs∧
  ∀(w':World) (v':Value) (y:α) (us:List Value),s.reads (λb=>A b∧some b≠v.ownBlock) w us y→w'.ownsRow base e s.n v' (xs.length+1) (cs++us)→w.grownBy w' v.ownBlock→nI w v v'→Own s A w' base e v' (xs++[y]):=by
 obtain⟨cs,h1,h2⟩:=h.app;refine⟨cs,h1,λw' v' y us hr ho hg hv=>h2 (ys:=[y]) (news:=[us]) rfl rfl (λk hk _=>?_) (by simpa using ho) hg hv⟩;have:k=0:=BC;subst this;exact hr
theorem ayw(B q o n c:Nat)(vs:List Value)(vl:Value)(hs:Nat→Sp)(levels:List (List Sp))(w:World)(hX:Bx B vs w)(h9:vs[9]?=some (.slice (some ⟨q,o,none⟩) n c))(hn0:n≤1000000)(hsh:∀i,i<n→ShAt q o hs w i)(hll:levels.length≤n)
  (hv:aC Shape.span.list w vl levels) (hlv:∀l∈levels,∀s∈l,0≤s.1∧s.2≤12000) (hn:∀i (h:i<levels.length),(sD (hs i) levels[i] levels[i].length).length≤1000000) :
  Calls prog 81 #[.pointer (some ⟨B,0,none⟩),vl] w λe w'=>∃v,e=.returned v∧Own Shape.span.list (λ_=>True) w' w.heap.size 54 v (yh hs levels levels.length)∧BL w w':=by
 obtain⟨a,ca,rfl,hc1,hc2⟩:=hv.shape;unfold maxLen at hc2;have HV:=U hv
 have HC:=U (λ(W:World) (hb:BL w W) (k:Nat) (u:Value) (hk:k<levels.length) (hu:aC Shape.span W u levels[k])=>show Calls prog 143 #[.pointer (some ⟨B,0,none⟩),k,u] W λe w'=>∃v,e=.returned v∧bG W.heap.size w' v (zi (hs k) levels[k])∧BL W w' from by
  obtain⟨C,cs,s1,s2,s3,s4,s5,s6,s7⟩:=hsh k ae;have lq:=fe _ _ s1;dsimp only at lq
  exact ayv B q o n c C k vs cs u levels[k] (hs k).1 (hs k).2 W (hX.next hb) h9 ae hn0 ((hb.cell (p:=⟨q,o+k,none⟩) lq).trans s1) (s2.next hb) s3 s4 s5 s6 s7 hu (hlv _ (eu hk)) (hn k hk))
 have hl6:levels.length≤1000000:=ae;clear hX h9 hn0 hsh hll hv hlv hn;obtain⟨i0,hi,hz0,hz1,hz2⟩:=dY Rj;go_in;go_wp2
 go_loopw [5,10] (λou iv wr=>∃k:Nat,k≤levels.length∧iv=.int .i64 k∧Hid (Own Shape.span.list (λ_=>True) wr w.heap.size 54 ou (yh hs levels k))∧BL w wr) (λ_ iv _=>levels.length-(intOf iv).toNat)
 case atStart=>exact⟨0,ae,rfl,U (by simpa[yh]using Own.nil),aB _ _⟩
 case round=>
  obtain⟨k,hk,rfl,HO,hb⟩:=hrel;obtain⟨a5,c5,rfl⟩:=HO.o.slice;by_cases hlt:k<levels.length
  ·obtain⟨q1,o1,u,e1,_,d1,hu⟩:=(HV.o.below hb).list_at hlt;subst e1;have HT:Hid (yh hs levels (k+1)=yh hs levels k++[zi (hs k) levels[k]]):=U (by simp[yh,jq,aP,bN,hlt]);have CALL:=U (HC.o wr hb k u hlt hu);clear hu;have hlen:(yh hs levels k).length≤1000000:=by simp[yh];omega
   generalize yh hs levels k=M at *;generalize zi (hs k) levels[k]=g at *;have i1:(0:Int)≤(k:Int):=ae;have i2:(k:Int)<levels.length:=ae;go_wp2_with fail;refine CALL.o.mono ?_;rintro e w1 ⟨x,rfl,hO1,hb1⟩;obtain⟨a8,c8,rfl⟩:=bv hO1;have bL:=U (HO.o.below hb1);have HG:=U hO1;have hb2:=Bl.call hb hb1;have hsz:=hb2.size;clear CALL hO1;have ja:=bL.o.below (Bl.alloc (aB w1.heap.size w1) (.cells #[.slice a8 g.length c8] 54))
   have BP:Hid (Shape.span.list.reads (λb=>True∧some b≠(Value.slice a5 M.length c5).ownBlock) (w1.alloc (.cells #[.slice a8 g.length c8] 54)) [.slice a8 g.length c8] g):=U (xh mE (jT (fq HG.o (Bl.alloc (aB w1.heap.size w1) _))) (λb hbk=>⟨trivial,λe=>by
    have h1:=(HG.o.lt b hbk).1;have h2:=(HO.o.lt b e.symm).2
    omega⟩))
   obtain⟨cs,hr,hap⟩:=K7 ja;have HR:=U hr;have vB:=U hap;clear hr hap ja;go_wp2_with (at_builtin;go_loud (refine iE (HR.o) ⟨w1.heap.size,0,none⟩ 1 1 [.slice a8 g.length c8] hi hz0 hz1 hz2 ?_);intro v' w4 hown' hgrow bY)
   have fu:=U (vB.o w4 v' g [.slice a8 g.length c8] BP.o hown' hgrow bY);have hb4:BL w w4:=gJ (Bl.alloc hb2 _) hgrow bC (λj hj=>(bL.o.lt j hj).1);clear hown' hgrow bY;go_roundw
   case rel=>exact⟨k+1,ae,aY,RX,hb4⟩
   case measure=>exact aFF
  ·have hkk:k=levels.length:=ae;go_wp2;go_ret;exact⟨_,rfl,by rw[←hkk];exact HO.o,hb⟩
end
section
attribute [local go_sem] Qv
attribute [local go_sem] Oper.semAt_some
def Uu(t:TypeId)(name:String)(f:Nat)(r:Value):Prop:=∀W,(Go.method (prog.types.size+Made.depth) t r name).run prog W=.ok (f,r) W
structure Seen(t:TypeId)(r:Value)(fN fS fT:Nat)(m:Nat)(nodes:Nat→List dK)(steps:Nat→List Hop)(w:World):Prop where
 mN : Uu t "aneroid/tracks.nodes" fN r
 mS : Uu t "aneroid/tracks.stages" fS r
 mT : Uu t "aneroid/tracks.steps" fT r
 eN:∀(args:Array Value) (W:World),(callFunc fN args).run prog W=.ok (.enter fN args) W
 eS:∀(args:Array Value) (W:World),(callFunc fS args).run prog W=.ok (.enter fS args) W
 eT:∀(args:Array Value) (W:World),(callFunc fT args).run prog W=.ok (.enter fT args) W
 cN:∀W (k:Nat),Below w.heap.size w W→k<m→Calls prog fN #[r,k] W λe w'=>∃u,e=.returned u∧aC Shape.nod w' u (nodes k)∧Below W.heap.size W w'
 cS:∀W,Below w.heap.size w W→Calls prog fS #[r] W (Eg m W)
 cT:∀W (k:Nat),Below w.heap.size w W→k+1<m→Calls prog fT #[r,k] W λe w'=>∃g lb,e=.returned (.func (.func g) #[] lb)∧Below W.heap.size W w'∧(∀(args:Array Value) (W:World),(callFunc g args).run prog W=.ok (.enter g args) W)∧
  ∃Rd:Nat→Prop,(∀q,Rd q→q<w'.heap.size∧(q<w.heap.size∨W.heap.size≤q))∧∀n,su prog n g lb Kt Rd (λys=>ys=steps k) 1000000 w'
theorem avQ:(prog.info? 33).map (λi=>(i.zero,i.size,i.bytes))=some (some (.slice none 0 0),1,24):=aF
theorem atr(Bv:Nat)(v:Value)(L:List Sp)(w:World)(hb:Bx Bv [v] w)(hv:aC Shape.span w v L)(hL:L.length≤1000000000000)(hbd:∀s∈L,-100000≤s.1∧s.1≤s.2∧s.2≤100000):
  Calls prog 289 #[.func (.func 181) #[] #[.pointer (some ⟨Bv,0,none⟩)]] w λe w'=>∃v,e=.returned v∧bG w.heap.size w' v (norm L)∧BL w w':=by
 refine atq 181 #[.pointer (some ⟨Bv,0,none⟩)] L L.length (gZ Bv v) w hL (aV _) ?_ (fo func181 aF rfl) (anw Bv _ v L w hb hv) hbd;rintro k (h|⟨a',n',c',e,h0,h⟩)
 ·rw[h];exact hb.lt
 ·obtain⟨a,c,e',_⟩:=hv.shape;rw[e']at e;cases e;rw[e']at hv;obtain⟨b,o,cs,e'',hb',_⟩:=hv.at h0;cases e'';rw[h];exact hb'
theorem asI(w:World):(binOp .eql 33 (.slice none 0 0) (.slice none 0 0)).run prog w=.ok (.bool true) w:=aF
attribute [local go_sem] asI
attribute [local go_sem] arh
theorem anq(t:TypeId)(r:Value)(fN fS fT m:Nat)(nodes:Nat→List dK)(steps:Nat→List Hop)(w:World)(hS:Seen t r fN fS fT m nodes steps w)(hok:Qa m nodes steps)(hm:1≤m)(hm2:m≤401):
  Calls prog 241 #[.iface t r,.slice none 0 0] w λe w'=>∃v Bf cf vf,e=.returned v∧fV w.heap.size w' v m (λk=>(nodes k).length) (λk n=>aP (rch nodes steps k) n) Bf cf vf∧Below w.heap.size w w':=by
 obtain⟨mN,mS,mT,eN,eS,eT,cN,cS,cT⟩:=hS;unfold Uu at mN mS mT;simp[go_sem]at mN mS mT;have CN:=U cN;have CS:=U cS;have CTT:=U cT;have dO:=U hok;obtain⟨i0,hi,hz0,hz1,hz2⟩:=dY Rj;clear cN cS cT hok;refine(xW (n:=3)).1 ?_;refine zb func241 rfl trivial ?_ rfl;simp only[ntmps241,jb,dS,fU,Nat.reduceAdd,Nat.reduceSub,kv,kw,kC,kz,fE,gB];have hfn:∀k,Fence.wide.fn k:=λ_=>trivial;have hdp:¬(Fence.wide.depth.isSome=true):=kL;gi_wp2_with fail;refine(jH jJ (CN.o w 0 (aB _ _) ae)).mono ?_;rintro e w1 ⟨u,rfl,hu,hb1⟩;obtain⟨au,cu,rfl,aus,aut⟩:=hu.shape;unfold maxLen at aut;have HU:=U hu;have HB1:=U hb1;have hp0:=dO.o.pos 0 ae;obtain⟨st,HST⟩:=nm (nodes 0);rw[HST.o]at HU hp0 aus ⊢;clear hu hb1;gi_wp2
 gi_loopw [1,20] (λs1 s20 wr=>∃(k:Nat) (vf:Nat→Value),k≤st.length∧s20=.int .i64 k∧Hid (zU w1.heap.size wr s1 k (λn=>(aI st n).1) vf)∧Hid (Below w1.heap.size w1 wr)) (λ_ s20 _=>st.length-(intOf s20).toNat)
 case atStart=>exact⟨0,λ_=>undef,ae,rfl,U zU.nil,U (aB _ _)⟩
 case round=>
  obtain⟨k,vf,hk,rfl,HF,cB⟩:=hrel;obtain⟨a1,c1,rfl⟩:=bv HF.o.row;by_cases hlt:k<st.length
  ·obtain⟨b3,o3,u1,u2,e3,d1,d2,L1,L2⟩:=(HU.o.below cB.o).nod_at hlt;subst e3;obtain⟨a6,c6,rfl,_,_⟩:=L1.shape;obtain⟨a7,c7,rfl,_,_⟩:=L2.shape;have eO:=U L1;have O9:=U (vT hlt)
   have hsl:(st[k].1).length≤1000000000:=by
    have h:=dO.o.al 0 k ae;rw[HST.o,O9.o]at h;have:=zC h.1 h.2 ae;omega
   clear L1 L2;generalize st[k]=x at *;generalize x.2.length=x2 at *;have i1:(0:Int)≤(k:Int):=ae;have i2:(k:Int)<st.length:=ae;gi_wp2_with fail;refine(jH jJ (aae _ x.1 _ (eO.o.below (Bl.alloc (aB _ _) _)) hsl)).mono ?_;rintro e w2 ⟨uc,rfl,hO,hb2⟩;obtain⟨a9,c9,rfl⟩:=bv hO;have HB2:Below wr.heap.size wr w2:=Bl.call (Bl.alloc (aB _ _) _) hb2;have hF2:=HF.o.below HB2;have hsz:=cB.o.size;have HUC:Hid (bG w1.heap.size w2 (.slice a9 x.1.length c9) x.1):=U (kJ hO bC);have xJ:Hid (∀q,(Value.slice a9 x.1.length c9).ownBlock=some q→wr.heap.size≤q):=U (λq hq=>by have:=(hO.lt q hq).1;simp only[fH]at this;omega);have hzs:=HB2.size;have gq:=U (Bl.call cB.o HB2);have HR2:=U (hF2.row.alloc (.cells #[.slice a9 x.1.length c9] 54));have hkk:k≤1000000:=ae;clear hO hb2 HB2
   gi_wp2_with (gi_at_builtin;go_must (refine ZW (HR2.o) ⟨w2.heap.size,0,none⟩ 1 1 [.slice a9 x.1.length c9] hi hz0 hz1 hz2 ?_);intro v' w4 hown' hgrow bY)
   have Tp:=U ((hF2.below (Bl.alloc (aB _ _) (.cells #[.slice a9 x.1.length c9] 54))).snoc (lo:=wr.heap.size) (u:=.slice a9 x.1.length c9) (λq hq=>(HF.o.row.lt q hq).2) (λj q hj hq=>((HF.o.sp j hj).lt q hq).2) (by
    show bG _ _ _ (aI st k).1
    rw[O9.o];exact fq HUC.o (Bl.alloc (aB _ _) _)) xJ.o hgrow hown' bY)
   have hb4:Below w1.heap.size w1 w4:=gJ (Bl.alloc gq.o _) hgrow bC (λj hj=>(HF.o.row.lt j hj).1);clear hown' hgrow bY hF2;go_roundw
   case rel=>exact⟨k+1,_,ae,aY,Tp,U hb4⟩
   case measure=>exact aFF
  ·obtain rfl:k=st.length:=ae;obtain⟨B0,cB0,e0,hB0,aun,auo,hF0⟩:=HF.o.fsp hp0.1;have aaK:=HF.o.row.lt;rw[e0]at aaK;have atG:=(aaK B0 rfl).2;cases e0;have rY:=U hF0;clear hF0 HF aaK;gi_wp2_with fail;have iy:=Bl.call HB1.o (Bl.alloc (Bl.alloc cB.o (.cells #[.slice (some ⟨B0,0,none⟩) st.length c1] 33)) (.cells #[.slice (some ⟨wr.heap.size,0,none⟩) 1 1] 140));have aeA:=Bl.alloc (Bl.alloc cB.o (.cells #[.slice (some ⟨B0,0,none⟩) st.length c1] 33)) (.cells #[.slice (some ⟨wr.heap.size,0,none⟩) 1 1] 140);have sF:=(fV.one rY.o hB0 aun auo).below (Bl.alloc (aB _ _) (.cells #[.slice (some ⟨wr.heap.size,0,none⟩) 1 1] 140))
   have VI:yV (λq=>q≠wr.heap.size+1) (.slice (some ⟨wr.heap.size,0,none⟩) 1 1) 1 (λ_=>st.length) (λ_=>B0) (λ_=>vf):=
    ⟨λq hq=>by simp only[Value.ownBlock,Cy]at hq;omega,λk _=>by show B0≠_;omega,λk j q _ hj hq=>by have:=((rY.o.sp j hj).lt q hq).2;omega⟩
   have X7:=Bx.new (W:=wr.alloc (.cells #[.slice (some ⟨B0,0,none⟩) st.length c1] 33)) (B:=wr.heap.size+1) (t:=140) (vs:=[.slice (some ⟨wr.heap.size,0,none⟩) 1 1]) aj;refine(jH jJ (CS.o _ iy)).mono ?_;rintro e w8 ⟨rfl,bq⟩;have X7:=U (X7.next bq);have cZ:=U (Bl.call iy bq);have aeB:=U (Bl.call aeA bq)
   have afh:Hid (∃Bf cf vf,fV w1.heap.size w8 (.slice (some ⟨wr.heap.size,0,none⟩) 1 1) 1 (λk=>(nodes k).length) (λk n=>aP (rch nodes steps k) n) Bf cf vf∧yV (λq=>q≠wr.heap.size+1) (.slice (some ⟨wr.heap.size,0,none⟩) 1 1) 1 (λk=>(nodes k).length) Bf vf):=U ⟨_,_,_,(sF.below bq).congr (λk hk=>by
     obtain rfl:k=0:=ae
     exact gQ List.length HST.o) (λk j hk hj=>by
     obtain rfl:k=0:=ae;show aP (rch nodes steps 0) j=(aI st j).1
     rw[rch,KV,HST.o]),VI.1,VI.2.1,λk j q hk hj hq=>VI.2.2 k j q hk (by
     obtain rfl:k=0:=ae;have h:j<(nodes 0).length:=hj
     rw[HST.o]at h;exact h) hq⟩
   have lU:wr.heap.size+2≤w8.heap.size:=by have:=bq.size;simp at this;omega
   clear bq iy aeA sF VI rY;gi_wp2_with fail;have auh:Hid (w1.heap.size≤wr.heap.size+1):=U ae;clear atG hB0 lU cB;generalize wr.heap.size+1=b7 at *;generalize wr.heap.size=g7 at *
   refine wpIn_loop (λa' W=>∃(k:Nat) (v:Value) (ds:List Deferred),(k+1≤m∧Hid (∃Bf cf vf,fV w1.heap.size W v (k+1) (λk=>(nodes k).length) (λk n=>aP (rch nodes steps k) n) Bf cf vf∧yV (λq=>q≠b7) v (k+1) (λk=>(nodes k).length) Bf vf)∧Hid (Bx b7 [v] W)∧Hid (Below w1.heap.size w1 W)∧Hid (Marks w1.heap.size ds W))∧∃us:Nat→Value,a'=Act.mk [.iface t r,.slice (some ⟨B0,0,none⟩) st.length c1,undef,undef,.slice none 0 0,undef,u6,.pointer (some ⟨b7,0,none⟩),us 8,us 9,us 10,undef,undef,us 13,us 14,.slice none 0 0,.bool true,.iface t r,.slice au st.length cu,.int .i64 st.length,.int .i64 st.length,.bool false,u22,u23,u24,u25,u26,u27,u28,u29,u30,.slice (some ⟨B0,0,none⟩) st.length c1,.slice (some ⟨g7,0,none⟩) 1 1,.iface t r,.int .i64 m,.int .i64 ((m:Int)-1),.int .i64 k,us 37,us 38,us 39,us 40,us 41,us 42,us 43,us 44,us 45,us 46,us 47,us 48,undef,undef,undef,undef,undef,undef,undef,undef,undef,undef,undef,undef,undef,undef,undef,undef,undef,undef,undef,undef,undef,undef,us 71,us 72,us 73,us 74,us 75,us 76,us 77,us 78,us 79,us 80,us 81,us 82,us 83,us 84,us 85,us 86,us 87,us 88,us 89,us 90,us 91,us 92,us 93,us 94,us 95,undef].toArray ds)
    (λa' _=>m-(intOf (a'.tmps.getD 36 undef)).toNat) ?start ?round
   case start=>exact⟨0,_,[],⟨hm,afh,X7,aeB,U Marks.nil⟩,Dc _ _ _ rfl⟩
   case round=>
    clear afh X7 aeB cZ;rintro a' W ⟨k,v,ds,⟨hk,HO,X7,cB,HM⟩,us,rfl⟩;obtain⟨Bf,cf,zO,ol,bL⟩:=HO.o;have ol:=U ol;have bL:=U bL;clear HO;obtain⟨av,cv,rfl⟩:=bv ol.o.row;have l7:=X7.o.lt;by_cases hk1:k+1<m
    ·have HN:=dO.o.pos (k+1) hk1;have i1:decide ((k:Int)<(m:Int)-1)=true:=bC;have i2:IntKind.i64.wrap ((k:Int)+1)=(k:Int)+1:=dE _ ae;gi_wp2_with fail;have hc:=CN.o (W.alloc (.cells #[.int .i64 k] 3)) (k+1) (Bl.alloc (Bl.call HB1.o cB.o) _) hk1;rw[show(((k+1:Nat)):Int)=(k:Int)+1 from ae]at hc;refine(jH jJ hc).mono ?_;rintro e w2 ⟨u,rfl,hu,hb2⟩;obtain⟨au2,cu2,rfl,hd1,hd2⟩:=hu.shape;unfold maxLen at hd2;have JS:=U hu;have HB2:=U (Bl.call (Bl.alloc (aB _ _) _) hb2);have X8:=U ((Bx.new (W:=W) (t:=3) (vs:=[.int .i64 k]) rfl).next hb2);have Da:W.heap.size+1≤w2.heap.size:=by have:=hb2.size;simp at this;omega
     obtain⟨n,hn⟩:=nm ((nodes (k+1)).length);rw[hn.o]at HN JS hd1 ⊢;obtain⟨w3,hrun,hown,hgr⟩:=RU (P:=prog) (w:=w2) w2.heap.size 33 54 i0 (.slice none 0 0) 1 underlying33 hi hz0 hz1 .i64 .i64 n ae Lf lD (aV _)
     have hcells:(madeCells (Value.slice none 0 0).cells (n*1)).toList=List.replicate n (.slice none 0 0):=by
      refine oD WJ λj h1 h2=>?_;simp[madeCells,Value.cells,Uw]
     rw[hcells]at hown;have hb3:Below w2.heap.size w2 w3:=gJ (aB _ _) hgr (aV _) (λj hj=>MR);have F3:=U (gY.made (L:=iM (rch nodes steps k) []) hown (λj _=>rfl));clear hown hgr hcells hu hb2 hc;have ZT:=X8.o.next hb3;have x8:=ZT.cell 0;have l8:=ZT.lt;simp only[aK]at x8;have n8:¬W.heap.size=w3.heap.size:=ae;gi_wp2_with fail;have QX:=Bl.alloc hb3 (.cells #[.slice (some ⟨w2.heap.size,0,none⟩) n n] 33);refine(jH jJ (CTT.o _ k (Bl.call (Bl.call (Bl.call HB1.o cB.o) HB2.o) QX) hk1)).mono ?_;rintro e w5 ⟨g,lb,rfl,hb5,eg,Rd,qK,hseq⟩;have eD:Hid (Below w2.heap.size w2 w5):=U (Bl.call QX hb5);have F5:=U (F3.o.below (Bl.call (Bl.alloc (aB _ _) (.cells #[.slice (some ⟨w2.heap.size,0,none⟩) n n] 33)) hb5));have jf:=U ((Bx.new (W:=w3) (t:=33) (vs:=[.slice (some ⟨w2.heap.size,0,none⟩) n n]) rfl).next hb5);have hz3:=hb3.size;have vQ:w3.heap.size+1≤w5.heap.size:=by have:=hb5.size;simp only[fH]at this;exact this
     have hw0:=(Bl.call HB1.o cB.o).size
     have jM:Hid (∀q,Rd q→q<w5.heap.size∧q≠w2.heap.size):=U (λq hq=>by
      have h:=qK q hq;simp only[fH]at h;refine⟨h.1,?_⟩;rcases h.2 with h|h
      ·omega
      ·have:=F3.o.lt;omega)
     have apg:=U (hseq (3-1));have lB3:=F3.o.lt;have afd:=U ((ol.o.below HB2.o));have X75:=U (X7.o.next HB2.o);have Iz:=U ol.o.ltAll;clear hseq qK hb5 hb3 QX F3 x8 l8 n8 ZT hrun;gi_wp2_with fail;generalize lN:w3.heap.size=b10 at *;clear lN;obtain⟨bJ,Er⟩:∃b,Hid (b=w2.heap.size):=⟨_,U rfl⟩;rw[←Er.o]at F5 jf jM lB3 hz3 Da eD;rw[←Er.o];refine(λ(h:∃A:Nat→Hop→Act,_)=>h.elim λ_ h=>h) ?_;apply Exists.intro
     refine E8 (gf:=g) (lb:=lb) rfl eg apg.o (λq hq=>(jM.o q hq).1) (λ_=>rfl)
      (λown pre W'=>(∃uf,gY bJ bJ n (iM (rch nodes steps k) pre) uf W'∧∀j q,j<n→(uf j).ownBlock=some q→¬own q∧w5.heap.size+2≤q)∧Below bJ w2 W'∧Bx b10 [.slice (some ⟨bJ,0,none⟩) n n] W') ?hI (λ_ _ _ _=>False) ?hIx ?h0
      (λown pre x a1 W'=>∃bh:Nat,(Bx bh [.int .i64 x.1.1,.int .i64 x.1.2] W'∧Bx (bh+1) [.int .i64 x.2.1,.int .i64 x.2.2] W'∧w5.heap.size+2≤bh)∧(pre++[x] <+: steps k)∧((∃uf,gY bJ bJ n (iM (rch nodes steps k) pre) uf W'∧∀j q,j<n→(uf j).ownBlock=some q→¬own q∧w5.heap.size+2≤q∧q<bh)∧Below bJ w2 W'∧Bx b10 [.slice (some ⟨bJ,0,none⟩) n n] W')∧a1=?w bh x) ?hAx ?assign ?body ?done ?stop
     case hI=>
      rintro own own' pre A B ⟨⟨uf,hF,hR⟩,hbb,hx⟩ ho hs ht hw
      have no:∀q,q<w5.heap.size→¬(own q∨q=w5.heap.size∨q=w5.heap.size+1):=λq hq h=>by
       rcases h with h|h|h
       ·exact aFr
       ·omega
       ·omega
      refine⟨⟨uf,hF.turns ht (no _ ae) (λj q hj hq h=>?_),λj q hj hq=>⟨λh=>?_,(hR j q hj hq).2⟩⟩,aA.below hbb ht ae (λq h=>?_),hx.turns ht (no _ ae)⟩
      ·have:=hR j q hj hq;rcases h with h|h|h
       ·exact this.1 h
       ·omega
       ·omega
      ·have h1:=hR j q hj hq;rcases hw q h with h2|h2
       ·exact h1.1 h2
       ·exact aDi
      ·rcases h with h|h|h
       ·exact aFr
       ·omega
       ·omega
     case hIx=>exact aFs
     case h0=>exact⟨⟨_,F5.o,λj q hj hq=>MS⟩,eD.o,jf.o⟩
     case hAx=>
      rintro own pre x a1 A B ⟨bh,⟨h1,h2,h3⟩,h4,⟨⟨uf,hF,hR⟩,hbb,hx⟩,h6⟩ ho ht hlt hsz;exact⟨bh,⟨h1.turns ht (λe=>ae),h2.turns ht (λe=>ae),h3⟩,h4,⟨⟨uf,hF.turns ht (λe=>ae) (λj q hj hq e=>by have:=(hR j q hj hq).2.1;omega),hR⟩,aA.below hbb ht ae (λq h=>ae),hx.turns ht (λe=>ae)⟩,h6⟩
     case assign=>
      rintro ll own pre x W' hi' ho hs hlt hpre _ _;obtain⟨_,rfl,hpre⟩:=hpre;have HP:=U hpre;clear hpre;have HI:=U hi';clear hi';unfold Kt;gi_wp2;have hbl:Below W'.heap.size W' ((W'.alloc (.cells #[.int .i64 x.1.1,.int .i64 x.1.2] 360)).alloc (.cells #[.int .i64 x.2.1,.int .i64 x.2.2] 41)):=Bl.alloc (Bl.alloc (aB _ _) _) _;obtain⟨⟨uf,hF,hR⟩,hbb,hx⟩:=HI.o;have hX1:=(Bx.new (W:=W') (t:=360) (vs:=[.int .i64 x.1.1,.int .i64 x.1.2]) rfl).alloc (.cells #[.int .i64 x.2.1,.int .i64 x.2.2] 41);have hX2:=Bx.new (W:=W'.alloc (.cells #[.int .i64 x.1.1,.int .i64 x.1.2] 360)) (B:=W'.heap.size+1) (t:=41) (vs:=[.int .i64 x.2.1,.int .i64 x.2.2]) aj
      have Gn:fG w5.heap.size Rd own W' ((W'.alloc (.cells #[.int .i64 x.1.1,.int .i64 x.1.2] 360)).alloc (.cells #[.int .i64 x.2.1,.int .i64 x.2.2] 41)):=fG.of_below hbl λq hq=>by
       rcases hq with h|h|h|h
       ·have:=(jM.o q h).1;omega
       ·exact(ho q h).2
       ·omega
       ·omega
      have hI2:(∃uf,gY bJ bJ n (iM (rch nodes steps k) pre) uf ((W'.alloc (.cells #[.int .i64 x.1.1,.int .i64 x.1.2] 360)).alloc (.cells #[.int .i64 x.2.1,.int .i64 x.2.2] 41))∧∀j q,j<n→(uf j).ownBlock=some q→¬own q∧w5.heap.size+2≤q∧q<W'.heap.size)∧Below bJ w2 ((W'.alloc (.cells #[.int .i64 x.1.1,.int .i64 x.1.2] 360)).alloc (.cells #[.int .i64 x.2.1,.int .i64 x.2.2] 41))∧Bx b10 [.slice (some ⟨bJ,0,none⟩) n n] ((W'.alloc (.cells #[.int .i64 x.1.1,.int .i64 x.1.2] 360)).alloc (.cells #[.int .i64 x.2.1,.int .i64 x.2.2] 41)):=
       ⟨⟨uf,hF.below hbl,λj q hj hq=>⟨(hR j q hj hq).1,(hR j q hj hq).2,((hF.sp j hj).lt q hq).2⟩⟩,hbb.trans (hbl.mono (by have:=hF.lt;omega)),hx.next hbl⟩
      generalize (W'.alloc (.cells #[.int .i64 x.1.1,.int .i64 x.1.2] 360)).alloc (.cells #[.int .i64 x.2.1,.int .i64 x.2.2] 41)=W2 at *;generalize W'.heap.size=bh at *;exact⟨Gn,bh,⟨hX1,hX2,hs⟩,HP.o,hI2,rfl⟩
     case body=>
      rintro ll own pre x a1 W' ⟨bh,⟨h1,h2,h3⟩,h4,⟨⟨uf,hF,hR⟩,hbb,hx10⟩,rfl⟩ ho hs hlt hpre;clear hpre;have hx:=dO.o.st k hk1 x (h4.subset aj);rw[hn.o]at hx;obtain⟨⟨xf,xt⟩,x1,x2⟩:=x;simp only at h1 h2 hx ⊢;obtain⟨tn,rfl⟩:∃tn:Nat,xt=(tn:Int):=⟨xt.toNat,ae⟩;obtain⟨fk,rfl⟩:∃fk:Nat,xf=(fk:Int):=⟨xf.toNat,ae⟩;have htn:tn<n:=ae;have Ew:fk<(nodes k).length:=ae;have hc1:=h1.cell 0;have hc2:=h1.cell 1;have hc3:=h2.cell 0;have hc4:=h2.cell 1;have Ni:=hx10.cell 0;simp only[aK,bB]at hc1 hc2 hc3 hc4 Ni;have hl1:=h1.lt;have hl2:=h2.lt;have hl5:=hx10.lt;have lQ:Below w2.heap.size w2 W':=by rw[←Er.o];exact hbb
      have sG:=X75.o.next lQ;have hX8:=X8.o.next lQ;have II:=sG.cell 0;have hc8:=hX8.cell 0;have Q3:=sG.lt;have hl8:=hX8.lt;simp only[aK]at II hc8;have hO:=afd.o.below lQ;obtain⟨gv,cv',ev,auI,auJ,ajU⟩:=hO.at (show k<k+1 from ae);cases ev;have Vk:=hO.fam k ae;have hcf:=Vk.cell fk Ew;have hlf:=Vk.lt;have Re:=Vk.sp fk Ew;obtain⟨a4,c4,e4⟩:=bv Re;have uG:=hF.cell tn htn;have AZ:=hF.lt;have vP:=hF.sp tn htn;obtain⟨a5,c5,e5⟩:=bv vP;have hfT:=hF.free;have hRT:∀q,(uf tn).ownBlock=some q→¬own q∧w5.heap.size+2≤q∧q<bh:=λq hq=>hR tn q htn hq;have Q6:∀q,(uf tn).ownBlock=some q→q≠bJ:=λq hq=>hF.ne tn q htn hq;have AC:=U (ZU (cur:=rch nodes steps k) (λn=>⟨NL (Jd dO.o ae n).1,(Jd dO.o ae n).2,acF dO.o ae n⟩) pre (λy hy=>(dO.o.st k hk1 y (h4.subset (by simp[hy]))).2.2) tn);have aka:=h4.length_le;have ake:=dO.o.nm k hk1;rw[dn,Uo]at aka
      have aoh:Hid (∀j:Nat,iM (rch nodes steps k) (pre++[((((fk:Nat):Int),((tn:Nat):Int)),(x1,x2))]) j=if j=tn then iM (rch nodes steps k) pre tn++grow (aP (rch nodes steps k) fk) (x1,x2)else iM (rch nodes steps k) pre j):=U (λj=>by
       rw[aqp];by_cases e:j=tn
       ·subst e;simp
       ·rw[aD e,aD ic,ow])
      have hLf:=Jd dO.o (show k<m from ae) fk;have hLl:=acF dO.o (show k<m from ae) fk;have atD:=AC.o.1;obtain⟨OW,ig⟩:∃OW:Nat→Prop,Hid (∀q,OW q↔((uf tn).ownBlock=some q∨q=bJ)):=⟨_,U (λq=>Iff.rfl)⟩
      have n10:¬OW b10:=λh=>by
       rcases(ig.o _).1 h with h|h
       ·have:=(hRT _ h).2.1;omega
       ·omega
      have nbh:¬OW bh:=λh=>by
       rcases(ig.o _).1 h with h|h
       ·have:=(hRT _ h).2.2;omega
       ·omega
      have Ad:=U hF;have HRR:=U hR;have wP:=U (And.intro h1 h2);have jK:=U hbb;have Ao:=U hx10;have HHO:=U ho;rw[e4]at hcf Re;rw[e5]at uG vP;have HSF:=U Re;have aps:=U vP;have HLF:=U hLf;have xG:=U hfT;have JI:=U e5;have JL:=U h4;clear e4 e5 hO Vk hF hR hRT Q6 h1 h2 hbb hx10 Re vP hLf hfT lQ sG hX8 ho h4 aka ake;generalize aP (rch nodes steps k) fk=lf at *;generalize iM (rch nodes steps k) pre tn=la at *;have j1:(0:Int)≤(tn:Int):=ae;have j2:(tn:Int)<n:=ae;have j3:(0:Int)≤(k:Int):=ae;have j4:(k:Int)<(((k+1:Nat)):Int):=ae;have j5:(0:Int)≤(fk:Int):=ae;have j6:(fk:Int)<(nodes k).length:=ae;gi_wp2;refine anU (λw'=>∃p:Tw OW W',w'=p.w) [18,20] [17,18,20] 1 [0,1,2,4,12] [(0,[3,5,6,7,8,9,10,11,13,14,15,16],17),(1,[],18),(0,[19],20)] [] [_,_,_,_,_] [(0,[_,_,_,_,_,_,_,_,_,_,_,_],17,_),(1,[],18,_),(0,[_],20,_)] [] ?_ ?_
      ·exact aFv
      (repeat(go_big_quiet_step (fail)));refine aH (an1 ?_)
      (repeat(go_big_quiet_step (fail)));refine aH ?_
      intro w6 hb6;go_wp2_with fail;refine(aAF _ lf x1 x2 w6 (jT (fq HSF.o hb6)) ae (λs hs=>by have a:=HLF.o.2 s hs;have b:=HLF.o.1.1 s hs;omega) ae).mono ?_;rintro e w7 ⟨um,rfl,hOm,bV⟩;obtain⟨a7,c7,rfl⟩:=bv hOm;have ji:=Bl.call hb6 bV;have xL:=U (jT hOm);have QO:=fq aps.o ji;have uJ:=ji.size;have UV:=(ji.cell (p:=⟨bJ,tn,none⟩) AZ).trans uG;have hgl:(grow lf (x1,x2)).length≤12001:=by simp only[grow,fC];exact hLl
      go_wp2;refine sV ji (λw' h=>CT.of (aA.of_below (Bl.call ji h))) (anZ ?_);go_wp2_with (at_builtin;go_loud (refine Ov _ rfl _ _ rfl bJ (.slice a5 la.length c5) (.slice a7 (grow lf (x1,x2)).length c7) la (grow lf (x1,x2)) rfl QO rfl xL.o ae ae ?_);intro v9 w9 Ez Gq IP)
      have pU:aA (λq=>(uf tn).ownBlock=some q) W' w9:=(aA.of_below ji).trans (aA.grown Gq (λq hq=>by rw[JI.o];exact hq));have fJ:=U (pU.mono (own':=OW) (λq hq=>(ig.o q).2 (.inl hq)));have KZ:¬(uf tn).ownBlock=some bJ:=λh=>Ad.o.ne tn bJ htn h rfl;have MQ:=(iL (a:=⟨bJ,tn,none⟩) (pU.block bJ AZ KZ)).trans uG
      have Oy:w9.frozen? ⟨bJ,tn,none⟩=false:=by
       have:=xG.o tn;unfold World.frozen? at this ⊢;rw[pU.block bJ AZ KZ];exact this
      have Ny:bJ<w9.heap.size:=nH AZ pU.size;have lJ:=U pU;have mK:=U Ez;have HG9:=U Gq;have mJ:=U IP;obtain⟨a9,c9,rfl⟩:=bv Ez;clear pU KZ Ez Gq IP UV QO;refine wD _ rfl (λw' h=>CT.of (fJ.o.trans (aA.of_below h))) (an0 ?_)
      (repeat(go_big_quiet_step (fail)));refine aH ?_
      intro nq;go_wp2;refine wD _ rfl (λw' h=>CT.of (((fJ.o.trans (aA.drewN _ _ nq)).trans (aA.setCell _ _ _ _ ((ig.o _).2 (.inr rfl)))).trans (aA.of_below h))) (anY ?_);simp only[iI];gi_wp2;rw[←dn];have hlB:=AZ;have htd:aA (λq=>(uf tn).ownBlock=some q) W' (w9.drewN nq):=lJ.o.trans (aA.drewN _ _ nq);have hrow:∀q,(uf tn).ownBlock=some q→¬own q∧w5.heap.size+2≤q:=λq hq=>⟨(HRR.o tn q htn hq).1,(HRR.o tn q htn hq).2.1⟩;have hne:=Ad.o.ne
      have hv:∀q,(Value.slice a9 (la++grow lf (x1,x2)).length c9).ownBlock=some q→q≠bJ∧((uf tn).ownBlock=some q∨W'.heap.size≤q):=λq hq=>by
       rcases mJ.o with e|⟨k',e,hle⟩
       ·have:(uf tn).ownBlock=some q:=by rw[JI.o,←e];exact hq
        exact⟨hne tn q htn this,.inl this⟩
       ·rw[hq]at e;cases e;exact⟨ae,.inr ae⟩
      have hset:=(Ad.o.set (v':=.slice a9 (la++grow lf (x1,x2)).length c9) (ys:=la++grow lf (x1,x2)) htn htd (λh=>hne tn bJ htn h rfl) (λj q hj e hq h=>Ad.o.apart j tn q hj htn e hq h) (fq mK.o (Bl.drewN (aB _ _) nq)) hv).same (L':=iM (rch nodes steps k) (pre++[((((fk:Nat):Int),((tn:Nat):Int)),(x1,x2))])) (λj _=>aoh.o j);have A7:aA (λq=>(uf tn).ownBlock=some q∨q=bJ) W' ((w9.drewN nq).setCell ⟨bJ,tn,none⟩ (.slice a9 (la++grow lf (x1,x2)).length c9)):=(htd.mono λq h=>.inl h).trans (aA.setCell _ _ _ _ (.inr rfl));show fG _ _ _ _ _∧_∧_∧_
      refine⟨⟨A7.size,λq hq=>?_⟩,⟨_,hset,λj q hj hq=>?_⟩,?_,?_⟩
      ·have h1:q<W'.heap.size∧q≠bJ∧¬(uf tn).ownBlock=some q:=by
        rcases hq with h|h|h|h
        ·have:=jM.o q h;exact⟨ae,this.2,λe=>ajl⟩
        ·have:=HHO.o q h;exact⟨this.2,ae,λe=>(hrow q e).1 h⟩
        ·exact⟨ae,ae,λe=>ajl⟩
        ·exact⟨ae,ae,λe=>ajl⟩
       exact A7.block q h1.1 (λh=>h.elim h1.2.2 h1.2.1)
      ·by_cases e:j=tn
       ·simp only[aG e]at hq;rcases(hv q hq).2 with h|h
        ·exact hrow q h
        ·exact⟨λho=>by have:=HHO.o q ho;omega,ae⟩
       ·simp only[aD e]at hq;exact⟨(HRR.o j q hj hq).1,(HRR.o j q hj hq).2.1⟩
      ·exact aA.below jK.o A7 ae (λq h=>by rcases h with h|h;(have:=(hrow q h).2;omega);omega)
      ·exact Ao.o.turns A7 (λh=>by rcases h with h|h;(have:=(hrow _ h).2;omega);omega)
     case done=>
      rintro own ls W' rfl ⟨⟨uf,hF,hR⟩,hbb,hx10⟩ ho hs hK;have lQ:Below w2.heap.size w2 W':=by rw[←Er.o];exact hbb
      have JJ:=((HM.o.below HB2.o).below lQ).turns (aA.refl (λ_=>False) W') (λ_ _ h=>h);have aEu:=cB.o.size;have ajH:Below w2.heap.size w2 w5:=by have:=eD.o;rw[←Er.o];exact this
      have mh:=U (Marks.cons (D:=w5.heap.size) ((HM.o.below HB2.o).below ajH) (aV _) ae JJ hK);have HF:=U hF;have jK:=U hbb;have Ao:=U hx10;have Ni:=hx10.cell 0;have hl5:=hx10.lt;simp only[aK]at Ni;clear hF hR hbb hx10 ho hs hK lQ JJ ajH;gi_wp2
      gi_loopw [73] (λLi wr2=>∃(i:Nat) (uf:Nat→Value),i≤n∧Li=.int .i64 i∧Hid (gY bJ bJ n (λj=>if j<i then aP (rch nodes steps (k+1)) j else iM (rch nodes steps k) (steps k) j) uf wr2)∧Hid (Below bJ w2 wr2)∧Hid (Bx b10 [.slice (some ⟨bJ,0,none⟩) n n] wr2)∧Hid (Marks w1.heap.size ({ target:=.collected w5.heap.size,args:=#[] }::ds) wr2)) (λLi _=>n-(intOf Li).toNat)
      case atStart=>exact⟨0,uf,ae,rfl,U (HF.o.same (λj _=>aj)),jK,Ao,mh⟩
      case round=>
       clear HF jK Ao mh Ni hl5;obtain⟨i,uf2,hi2,rfl,HF,jK,Ao,mh⟩:=hrel;have lQ:Below w2.heap.size w2 wr:=by have:=jK.o;rw[←Er.o];exact this
       have hzB:=lQ.size;have Ni:=Ao.o.cell 0;have hl5:=Ao.o.lt;simp only[aK]at Ni;have lBr:=HF.o.lt;by_cases hit:i<n
       ·obtain⟨b3,o3,u1,u2,e3,d1,d2,L1,L2⟩:=(JS.o.below lQ).nod_at (xs:=nodes (k+1)) (k:=i) iH;cases e3;have lb3:=fe _ _ d1;dsimp only at lb3;have O9:=U (vT (st:=nodes (k+1)) (k:=i) iH);have hAL:=dO.o.al (k+1) i hk1;rw[O9.o]at hAL;have nz:=U hAL;clear hAL;generalize (nodes (k+1))[i]' iH=xi at *;obtain⟨a6,c6,rfl,_,_⟩:=L1.shape;have eO:=U L1;clear L1 L2 d2;have uG:=HF.o.cell i hit;have PP:=HF.o.sp i hit;simp only[agr,aD,if_false]at PP;obtain⟨a5,c5,e5⟩:=bv PP;have JI:=U e5;rw[e5]at uG PP;have HST:=U (jT PP);have AC:=ZU (cur:=rch nodes steps k) (λn=>⟨NL (Jd dO.o ae n).1,(Jd dO.o ae n).2,acF dO.o ae n⟩) (steps k) (λy hy=>(dO.o.st k hk1 y hy).2.2) i;have ake:=dO.o.nm k hk1;have Tf:=U AC.2;have atD:=AC.1
        have qV:Hid (aP (rch nodes steps (k+1)) i=inter (norm (iM (rch nodes steps k) (steps k) i)) xi.1):=U (by
         rw[rch,Bh iH,O9.o])
        clear e5 PP AC;generalize iM (rch nodes steps k) (steps k) i=ai at *;have j1:(0:Int)≤(i:Int):=ae;have j2:(i:Int)<n:=ae;gi_wp2_with fail;refine Ou ?_;refine rU [12] [3,4,10,12] 1 [] [(2,[0,1,2,5,6,7,8,9],3),(2,[],4),(1,[],10),(0,[11],12)] [] [] [(2,[_,_,_,_,_,_,_,_],3,_),(2,[],4,_),(1,[],10,_),(0,[_],12,_)] [] ?_;refine aH (ku ?_)
        (repeat(go_big_quiet_step (fail)));refine aH ?_
        intro w6 hb6;go_wp2_with fail;refine(anv _ _ _ _).mono ?_;rintro e w7 ⟨rfl,bV,hx7⟩;have ji:=Bl.call hb6 bV;have bD:=U hx7;have apt:=U (HST.o.below ji);clear hx7;go_wp2;refine dZ ji (ku ?_);refine aH ?_;intro w8 bq;go_wp2_with fail;refine(atr w6.heap.size (.slice a5 ai.length c5) ai w8 (bD.o.next bq) (apt.o.below bq) ae (λs hs=>by have:=Tf.o s hs;omega)).mono ?_;rintro e w9 ⟨vg,rfl,AV,dX⟩;obtain⟨ag,cg,rfl⟩:=bv AV;have abd:=Bl.call bq dX;have mK:=U (jT AV);have Yu:=U (eO.o.below (Bl.call ji abd));have ajD:=Bl.call ji abd;have hnl:=zC (oQ ai) (NJ (λs hs=>by have:=Tf.o s hs;exact⟨this.1,this.2.2⟩)) ae;have hxl:=zC nz.o.1 nz.o.2 ae;clear AV;go_wp2;refine dZ abd (ku ?_);refine aH ?_;intro iZ lN;go_wp2_with fail;refine(adH _ _ (norm ai) xi.1 iZ (mK.o.below lN) (Yu.o.below lN) (oQ ai) nz.o.1 (λs hs=>by have:=NJ (l:=ai) (λs hs=>⟨(Tf.o s hs).1,(Tf.o s hs).2.2⟩) s hs;omega) ae).mono ?_;rintro e EZ ⟨vm,rfl,hO11,uF⟩;obtain⟨am,cm,rfl⟩:=bv hO11;have ajA:=Bl.call lN uF;have eP:=Bl.call ajD ajA;have MQ:=(eP.cell (p:=⟨bJ,i,none⟩) lBr).trans uG;have Oy:=(eP.frozen (p:=⟨bJ,i,none⟩) lBr).trans (HF.o.free i);have Ny:bJ<EZ.heap.size:=by have:=eP.size;omega
        have hzA:=fK ajD.size lN.size;have afc:=U hO11;have kN:=U eP;clear hO11 eP;go_wp2;refine dZ ajA (iP ?_)
        (repeat(go_big_quiet_step (fail)));refine aH ?_
        intro nq;go_wp2;refine bS _ rfl (jl ?_);simp only[iI,I8]
        have tQ:=U ((HF.o.set (i:=i) (v':=.slice am (inter (norm ai) xi.1).length cm) (ys:=inter (norm ai) xi.1) hit (aA.of_below (own:=λ_=>False) (Bl.drewN kN.o nq)) (λx=>x) (λ_ _ _ _ _ x=>x) (fq (kJ afc.o ae) (Bl.drewN (aB _ _) nq)) (λq hq=>by have:=(afc.o.lt q hq).1;exact⟨ae,.inr ae⟩)).same (L':=λj=>if j<i+1 then aP (rch nodes steps (k+1)) j else iM (rch nodes steps k) (steps k) j) (λj hj=>by
         by_cases e:j=i
         ·subst e;rw[aG ae,aG rfl];exact qV.o
         ·rw[aD e];by_cases e2:j<i
          ·rw[aG e2,aG ae]
          ·rw[aD e2,aD ae]))
        have A7:aA (λq=>q=bJ) wr ((EZ.drewN nq).setCell ⟨bJ,i,none⟩ (.slice am (inter (norm ai) xi.1).length cm)):=(aA.of_below (Bl.drewN kN.o nq)).trans (aA.setCell _ _ _ _ rfl);have aom:=U (aA.below jK.o A7 ae (λq h=>ae));have apJ:=U (Ao.o.turns A7 (λh=>ae))
        have HM3:=U (mh.o.turns A7 (λD hD h=>by
         subst h
         exact xX uG hD))
        clear A7 MQ Oy Ny uG d1;gi_wp2;go_roundw
        case rel=>exact⟨i+1,_,ae,aY,tQ,aom,apJ,HM3⟩
        case measure=>exact aFF
       ·obtain rfl:i=n:=ae;have G7:=U (HF.o.same (L':=λj=>aP (rch nodes steps (k+1)) j) (λj hj=>by simp[hj]));clear HF;have sG:=X75.o.next lQ;have hO:=afd.o.below lQ;obtain⟨gv,cv',ev,auI,auJ,ajU⟩:=hO.at (show k<k+1 from ae);cases ev;have II:=sG.cell 0;have Q3:=sG.lt;simp only[aK]at II;have bD:=U sG;have atW:=U sG.lt;have afe:=U hO;have HR:=U (hO.row.alloc (.cells #[.slice (some ⟨bJ,0,none⟩) i i] 33));obtain⟨j0,hj,hj0,hj1,hj2⟩:=dY avQ;clear hO sG ajU
        gi_wp2_with (gi_at_builtin;go_must (refine ZW (HR.o) ⟨wr.heap.size,0,none⟩ 1 1 [.slice (some ⟨bJ,0,none⟩) i i] hj hj0 hj1 hj2 ?_);intro v' w4 hown' hgrow bY;obtain⟨a9,c9,rfl⟩:=bv hown';have oM:=(bD.o.alloc (.cells #[.slice (some ⟨bJ,0,none⟩) i i] 33)).grown hgrow (λe=>bL.o.1 b7 e.symm rfl);have q7:=oM.cell 0;have z7:=oM.free 0;have VX:=oM.lt;simp only[aK]at q7)
        have Ae:=U hgrow;have HOWN:=U hown';have D8:=U bY;have Zc:=U oM;clear hgrow hown' bY oM;replace Ae:Hid ((wr.alloc (.cells #[.slice (some ⟨bJ,0,none⟩) i i] 33)).grownBy w4 (Value.slice (some ⟨gv,0,none⟩) (k+1) cv).ownBlock):=Ae;replace D8:Hid (nI (wr.alloc (.cells #[.slice (some ⟨bJ,0,none⟩) i i] 33)) (.slice (some ⟨gv,0,none⟩) (k+1) cv) (.slice a9 (k+1+1) c9)):=D8;have hWB:W.heap.size+1≤bJ:=Da;have hwW:=cB.o.size;have hbl:Below wr.heap.size wr (wr.alloc (.cells #[.slice (some ⟨bJ,0,none⟩) i i] 33)):=Bl.alloc (aB _ _) _;have hOL:=afe.o.below hbl;have Gm:=(G7.o.below hbl);have hmx:i≤maxLen:=lD;have hold:=Iz.o
        have hS:=hOL.snoc Ae.o (Gm.base_le ae) (aV i) hmx ae (λe=>by have:=(hold.1 _ e).2;omega) (λk' hk' e=>by have:=(hold.2.1 k' hk').2;omega)
         (λj q hj hq=>by
          have h1:=((G7.o.sp j hj).lt q hq).1
          exact⟨λe=>by have:=(hold.1 q e).2;omega,λk' hk' e=>by have:=(hold.2.1 k' hk').2;omega⟩)
         (λk' j q hk' hj hq=>⟨λe=>by have:=(hold.2.2 k' j q hk' hj hq).2;omega,own_ne ((hOL.fam k' hk').sp j hj) hOL.row aW hq⟩) HOWN.o D8.o
        have hIN:yV (λq=>q≠b7) (.slice a9 (k+1+1) c9) (k+1+1) (λk'=>(nodes k').length) (λk'=>if k'=k+1 then bJ else Bf k') (λk'=>if k'=k+1 then uf2 else zO k'):=by
         refine bL.o.snoc (n:=i) (λq hq=>?_) ae (λj q hj hq=>by have:=((G7.o.sp j hj).lt q hq).1;omega) (λ_ _=>rfl) hn.o;rcases D8.o with e|⟨k',e,hle⟩
         ·rw[e]at hq;exact bL.o.1 q hq
         ·rw[hq]at e;cases e;simp only[fH]at hle;have:=atW.o;omega
        have hS2:=(hS.congr (EJ:=λk'=>(nodes k').length) (L':=λk' j=>aP (rch nodes steps k') j) (λk' hk'=>by
          by_cases e:k'=k+1
          ·subst e;rw[aG rfl];exact hn.o
          ·rw[aD e]) (λk' j hk' hj=>by
          by_cases e:k'=k+1
          ·subst e;rw[aG rfl]
          ·rw[aD e])).turns (aA.setCell (λq=>q=b7) w4 ⟨b7,0,none⟩ (.slice a9 (k+1+1) c9) rfl) (hIN.mono λq h1 h2=>h1 h2)
        have hT4:aA (λq=>(Value.slice (some ⟨gv,0,none⟩) (k+1) cv).ownBlock=some q∨q=b7) wr (w4.setCell ⟨b7,0,none⟩ (.slice a9 (k+1+1) c9)):=
         ((aA.of_below hbl).trans (aA.grown Ae.o (λq hq=>.inl hq))).trans (aA.setCell _ _ _ _ (.inr rfl))
        have hB4:Below w1.heap.size w1 (w4.setCell ⟨b7,0,none⟩ (.slice a9 (k+1+1) c9)):=aA.below (Bl.call (Bl.call cB.o HB2.o) lQ) hT4 ae (λq h=>by
         rcases h with h|h
         ·exact(hold.1 q h).1
         ·have:=auh.o;omega)
        refine⟨⟨k+1,_,_,⟨ae,U ⟨_,_,_,hS2,hIN⟩,U (by have:=Zc.o.set 0 (.slice a9 (k+1+1) c9) aj;simpa using this),U hB4,U (mh.o.turns hT4 (λD hD h=>?_))⟩,Dc _ _ _ rfl⟩,?_⟩
        ·rcases h with h|h
         ·exact Wj afe.o.row D h hD
         ·subst h;exact xX II hD
        ·exact aFF
     case stop=>exact aFt
    ·obtain rfl:m=k+1:=ae;have i1:decide ((k:Int)<(((k+1:Nat)):Int)-1)=false:=aj;have II:=X7.o.cell 0;simp only[aK]at II;gi_wp2_with fail;have hmk:=ol.o.marks (λi hi=>(dO.o.pos i hi).1);refine KS (lo:=w1.heap.size) ds _ HM.o (λW' t _=>?_);have QK:=(ol.o.turns t (hmk.mono λq h1 h2=>h1 h2.2)).base_le HB1.o.size;refine⟨_,Lc rfl _ _ _,_,Bf,cf,zO,rfl,?_,aA.below (Bl.call HB1.o cB.o) t (by have:=(Bl.call HB1.o cB.o).size;exact this) (λq h=>by have:=HB1.o.size;omega)⟩;first|exact QK|simpa using QK
end
section
attribute [local go_sem] Qv
theorem alW{s:Shape α}{w:World}{xs:List α}(h:aC s w v xs):s.list.reads (λb=>b<w.heap.size) w [v] xs:=Shape.mono _ h (λ_ hb _=>hb)
theorem azG(v:Value)(T:aT)(w:World)(hv:aC Shape.nod.list w v T)(hT:ib T):Seen 321 (.agg #[v]) 343 344 345 T.length (aN T) (λk=>qo (aN T k)) w where
 mN:=λW=>aF
 mS:=λW=>aF
 mT:=λW=>aF
 eN:=fo func343 aF rfl
 eS:=fo func344 aF rfl
 eT:=fo func345 aF rfl
 cN:=λW k hb hk=>(aqy v T k W (hv.below hb) hk).mono λe w' ⟨u,h1,h2,h3⟩=>⟨u,h1,by rw[zL hk];exact h2.below h3,h3⟩
 cS:=λW hb=>aqI v T W (hv.below hb)
 cT:=λW k hb hk=>(ag8 v k W).mono λe w' ⟨h1,h2⟩=>by
  have hl:BL W w':=ay1;have hz:w'.heap.size=W.heap.size+1+1:=by rw[h2];simp
  have hA:Bx W.heap.size [v] w':=ay0;have hS:Bx (W.heap.size+1) [k] w':=ay2;refine⟨_,_,h1,hl,fo func346 aF rfl,(λq=>q<w.heap.size∨q=W.heap.size∨q=W.heap.size+1),?_,λn=>?_⟩
  rotate_left
  ·have h:=ag0 W.heap.size (W.heap.size+1) w.heap.size n 1000000 v T k w' hA hS (Shape.keep _ (alW hv) (Same.below (Bl.call hb hl))) ae (Bl.call hb hl).size (by rw[←zL ae];exact hT.steps_len ae);rw[←zL ae]at h;exact h
  ·rintro q (h|h|h)
   ·exact⟨by have:=(Bl.call hb hl).size;omega,.inl h⟩
   ·exact⟨ae,.inr ae⟩
   ·exact⟨ae,.inr ae⟩
theorem ank(v:Value)(T:aT)(w:World)(hv:aC Shape.nod.list w v T)(hT:ib T):
  Calls prog 176 #[.agg #[v]] w λe w'=>∃u Bf cf vf,e=.returned u∧fV w.heap.size w' u T.length (λk=>(aN T k).length) (λk n=>aP (iG T k) n) Bf cf vf∧BL w w':=by
 obtain⟨a,c,rfl,hc1,hc2⟩:=hv.shape;have HV:=U hv;have HT:=U hT;clear hv;have hl:=hT.len;go_in;go_wp2_with fail;refine(anq _ _ _ _ _ _ _ _ _ (azG _ T _ (HV.o.below (Bl.alloc (aB _ _) _)) HT.o) HT.o.ahead hl.1 hl.2).mono ?_;rintro e w1 ⟨u,Bf,cf,vf,rfl,hO,hb⟩;have HO:=U hO;clear hO;go_wp2;go_ret;have hb2:=Bl.call (Bl.alloc (aB w.heap.size w) _) hb;refine⟨_,Bf,cf,vf,rfl,?_,hb2⟩;have:=(HO.o.base_le (base':=w.heap.size) aj).congr (EJ:=λk=>(aN T k).length) (L':=λk n=>aP (iG T k) n) (λ_ _=>rfl) (λk j _ _=>by rw[Wn]);exact this
def sN(xs:List Value)(i:Nat):List Value:=(List.range xs.length).map λk=>if k<i∨xs.length-1-k<i then xs.getD (xs.length-1-k) undef else xs.getD k undef
theorem ayF(xs:List Value):sN xs 0=xs:=by
 refine oD (by simp[sN]) λk h1 h2=>?_;simp[sN,bN,h2]
theorem ayD(xs:List Value)(h:xs.length≤i+i+1):sN xs i=xs.reverse:=by
 refine oD (by simp[sN]) λk h1 h2=>?_;have hk:k<xs.length:=xw;rw[Zr];simp only[sN,lK,rZ];by_cases e:k<i∨xs.length-1-k<i
 ·rw[aG e];simp[bN,show xs.length-1-k<xs.length from ae]
 ·rw[aD e];have:xs.length-1-k=k:=ae;simp[bN,hk,this]
theorem al0{xs:List Value}(hk:k<xs.length)(h1:i≤k)(h2:k+i<xs.length):(sN xs i)[k]?=some xs[k]:=by
 have e:¬(k<i∨xs.length-1-k<i):=ae;simp[sN,hk,bN];intro h;omega
theorem ayE{xs:List Value}(h:i+i+1<xs.length):((sN xs i).set i (xs[xs.length-1-i]'(by omega))).set (xs.length-1-i) (xs[i]'(by omega))=sN xs (i+1):=by
 refine oD (by simp[sN]) λk h1 h2=>?_;have hk:k<xs.length:=by simpa[sN]using h2
 by_cases e1:k=xs.length-1-i
 ·subst e1;rw[Mx];simp only[sN,lK,rZ];rw[aG ae];have:xs.length-1-(xs.length-1-i)=i:=ae;rw[this];simp[bN,show i<xs.length from ae]
 ·rw[Un (λe=>e1 e.symm)];by_cases e2:k=i
  ·subst e2;rw[Mx];simp only[sN,lK,rZ];rw[aG ae];simp[bN,show xs.length-1-k<xs.length from ae]
  ·rw[Un (λe=>e2 e.symm)];simp only[sN,lK,rZ];by_cases e:k<i∨xs.length-1-k<i
   ·rw[aG e,aG ae]
   ·rw[aD e,aD ae]
theorem ayG(base g n c:Nat)(xs:List Value)(w:World)(h:w.ownsRow base 33 1 (.slice (some ⟨g,0,none⟩) n c) n xs)(hs:∀x∈xs,∃a l d,x=.slice a l d)(hn:n≤1000000):
  Calls prog 242 #[.slice (some ⟨g,0,none⟩) n c] w λe w'=>e=.returned (.tuple #[])∧w'.ownsRow base 33 1 (.slice (some ⟨g,0,none⟩) n c) n xs.reverse∧aA (λq=>q=g) w w':=by
 have hx:xs.length=n:=Vy;have HX:=U hx;have HH:=U h;have HS:=U hs;clear hx h hs;have w1:IntKind.i64.wrap ((n:Int)-1)=(n:Int)-1:=dE _ ae;go_in;go_wp2
 go_loopw [2,3] (λs2 s3 wr=>∃i:Nat,i≤n∧s2=.int .i64 i∧s3=.int .i64 ((n:Int)-1-i)∧Hid (wr.ownsRow base 33 1 (.slice (some ⟨g,0,none⟩) n c) n (sN xs i))∧Hid (aA (λq=>q=g) w wr)) (λs2 _ _=>n-(intOf s2).toNat)
 case atStart=>exact⟨0,ae,rfl,aj,by rw[ayF];exact HH,U (aA.refl _ _)⟩
 case round=>
  obtain⟨i,hi,rfl,rfl,HO,HT⟩:=hrel;by_cases hlt:i+i+1<n
  ·have Q4:i<xs.length:=aa6;have hlj:xs.length-1-i<xs.length:=ae;obtain⟨j,hj⟩:=nm (xs.length-1-i);have hji:Hid (j+i+1=n):=U (by have:=hj.o;have:=HX.o;omega);have hlt2:Hid (i+i+1<xs.length):=U aa6;have ajZ:j<xs.length:=by rw[←hj.o];exact hlj
   have aDM:=(HO.o.lt g rfl).2;obtain⟨a1,l1,d1,e1⟩:=HS.o _ (eu Q4);obtain⟨a2,l2,d2,e2⟩:=HS.o _ (eu ajZ);have ci:wr.cell? ⟨g,i,none⟩=some (.slice a1 l1 d1):=by rw[HO.o.cellAt i ae,al0 Q4 (aV i) aa6,e1]
   have cj:wr.cell? ⟨g,j,none⟩=some (.slice a2 l2 d2):=by rw[HO.o.cellAt j Vz,al0 ajZ Vz (by have:=hji.o;have:=HX.o;omega),e2]
   have zf:∀q,wr.frozen? ⟨g,q,none⟩=false:=λq=>HO.o.frozenAt q;have jL:=U e1;have HE2:=U e2;have G9:Hid ((n:Int)-1-i=(j:Int)):=U Vz;rw[G9.o];have i1:(0:Int)≤(i:Int):=ae;have i2:(i:Int)<n:=ae;have i3:(0:Int)≤(j:Int):=ae;have i4:(j:Int)<n:=Vz;have i5:decide ((i:Int)<(j:Int))=true:=by have:=hji.o;simp;omega
   have i8:decide (i<j)=true:=by have:=hji.o;simp;omega
   have i6:¬i=j:=Vz;have i7:¬j=i:=ae;have w2:IntKind.i64.wrap ((j:Int)-1)=(j:Int)-1:=dE _ ae;clear e1 e2 hlt hlj;go_wp2;refine iQ [13,15] [13,15] 0 [0,1,2,3,4,5,6,8,9,10] [(1,[7,11,12],13),(0,[14],15)] [] [_,_,_,_,_,_,_,_,_,_] [(1,[_,_,_],13,_),(0,[_],15,_)] [] ?_
   (repeat(go_big_quiet_step (fail)));refine aH (iP ?_)
   (repeat(go_big_quiet_step (fail)));refine aH ?_
   intro nq;go_wp2;refine bS _ rfl (iP ?_)
   (repeat(go_big_quiet_step (fail)));refine aH ?_
   intro NK;go_wp2;refine bS _ rfl (jl ?_)
   have iA:Hid ((((wr.drewN nq).setCell ⟨g,i,none⟩ (.slice a2 l2 d2)).drewN NK).setCell ⟨g,j,none⟩ (.slice a1 l1 d1) |>.ownsRow base 33 1 (.slice (some ⟨g,0,none⟩) n c) n (sN xs (i+1))):=U (by
    have h1:=(jB HO.o nq).stored i (.slice a2 l2 d2);have h2:=(jB h1.1 NK).stored j (.slice a1 l1 d1);have h3:=ayE (xs:=xs) (i:=i) hlt2.o;rw[jL.o]at h3;have Ri:=HX.o;have e:xs[xs.length-1-i]' ae=.slice a2 l2 d2:=by rw[←HE2.o];first|(congr 1;done)|(congr 1;exact hj.o)
    rw[e,hj.o]at h3
    rw[←h3];exact h2.1)
   have Hq:Hid (aA (λq=>q=g) w ((((wr.drewN nq).setCell ⟨g,i,none⟩ (.slice a2 l2 d2)).drewN NK).setCell ⟨g,j,none⟩ (.slice a1 l1 d1))):=U ((((HT.o.trans (aA.drewN _ _ nq)).trans (aA.setCell _ _ _ _ rfl)).trans (aA.drewN _ _ NK)).trans (aA.setCell _ _ _ _ rfl));clear ci cj zf;go_wp2;go_roundw
   case rel=>exact⟨i+1,ae,aY,by have:=G9.o;first|(congr 1;push_cast;omega)|(simp;omega),iA,Hq⟩
   case measure=>exact aFF
  ·have HF:Hid (sN xs i=xs.reverse):=U (ayD xs aa6);have i5:decide ((i:Int)<(n:Int)-1-i)=false:=bC;go_wp2;refine bodyPost_end (Jf rfl _ _ _) rfl ?_;exact⟨rfl,by rw[←HF.o];exact HO.o,HT.o⟩
theorem azH(v:Value)(T:aT)(w:World)(hv:aC Shape.nod.list w v T)(hT:ib T):Seen 322 (.agg #[v]) 347 348 349 T.length (λj=>aN T (T.length-1-j)) (λj=>(qo (aN T (T.length-2-j))).map sM) w where
 mN:=λW=>aF
 mS:=λW=>aF
 mT:=λW=>aF
 eN:=fo func347 aF rfl
 eS:=fo func348 aF rfl
 eT:=fo func349 aF rfl
 cN:=λW k hb hk=>(aqY v T (T.length-1-k) k W (hv.below hb) ae ae).mono λe w' ⟨u,h1,h2,h3⟩=>⟨u,h1,by rw[zL ae];exact h2.below h3,h3⟩
 cS:=λW hb=>aqZ v T W (hv.below hb)
 cT:=λW k hb hk=>(aq0 v k W).mono λe w' ⟨h1,h2⟩=>by
  have hl:BL W w':=ay1;have hz:w'.heap.size=W.heap.size+1+1:=by rw[h2];simp
  have hA:Bx W.heap.size [v] w':=ay0;have hS:Bx (W.heap.size+1) [k] w':=ay2;refine⟨_,_,h1,hl,fo func350 aF rfl,(λq=>q<w.heap.size∨q=W.heap.size∨q=W.heap.size+1),?_,λn=>?_⟩
  rotate_left
  ·have hj:T.length-2-k<T.length:=ae
   have h:=aqO W.heap.size (W.heap.size+1) w.heap.size n 1000000 v T k (T.length-2-k) w' hA hS (Shape.keep _ (alW hv) (Same.below (Bl.call hb hl))) hj ae (Bl.call hb hl).size (by rw[←zL hj];exact hT.steps_len hj) (λx hx=>by
    rw[←zL hj]at hx
    have:=hT.steps ae x hx;omega)
   rw[←zL hj]at h;exact h
  ·rintro q (h|h|h)
   ·exact⟨by have:=(Bl.call hb hl).size;omega,.inl h⟩
   ·exact⟨ae,.inr ae⟩
   ·exact⟨ae,.inr ae⟩
theorem aAv(v:Value)(T:aT)(w:World)(hv:aC Shape.nod.list w v T)(hT:ib T):
  Calls prog 177 #[.agg #[v]] w λe w'=>∃u Bf cf vf,e=.returned u∧fV w.heap.size w' u T.length (λk=>(aN T k).length) (λk n=>aP (nK T (T.length-1-k)) n) Bf cf vf∧BL w w':=by
 obtain⟨a,c,rfl,hc1,hc2⟩:=hv.shape;have HV:=U hv;have HT:=U hT;clear hv;have hl:=hT.len;go_in;go_wp2_with fail;refine(anq _ _ _ _ _ _ _ _ _ (azH _ T _ (HV.o.below (Bl.alloc (aB _ _) _)) HT.o) HT.o.back hl.1 hl.2).mono ?_;rintro e w1 ⟨u,Bf,cf,vf,rfl,hO,hb⟩;obtain⟨g,cu,rfl,hg1,hg2,_⟩:=hO.at (k:=0) ae;have HO:=U hO;clear hO;go_wp2_with fail;refine(ayG _ g T.length cu _ w1 HO.o.row (λx hx=>?_) ae).mono ?_
 ·simp only[dz]at hx;obtain⟨k,_,rfl⟩:=hx;exact⟨_,_,_,rfl⟩
 rintro e w2 ⟨rfl,hrow,ht⟩;have hR:=HO.o.rev (ht.mono λq hq=>by rw[hq];rfl) hrow;have HR:=U hR;have lJ:=U ht;clear hR hrow ht;go_wp2;go_ret;have hb2:=Bl.call (Bl.alloc (aB w.heap.size w) _) hb
 have hfin:=(HR.o.base_le (base':=w.heap.size) aj).congr (EJ:=λk=>(aN T k).length) (L':=λk n=>aP (nK T (T.length-1-k)) n) (λk hk=>by
  show _=(aN T (T.length-1-(T.length-1-k))).length
  congr 2;omega) (λk j hk _=>by rw[acE])
 exact⟨_,_,_,_,rfl,hfin,aA.below hb2 lJ.o (by have:=hb.size;simp at this;omega) (λq hq=>by simp only[fH]at hg1;omega)⟩
def AJ(T:aT)(k n:Nat)(a b:Nat):List Sp:=if a<k∨(a=k∧b<n)then inter (aP (iG T a) b) (aP (nK T (T.length-1-a)) b)else aP (iG T a) b
theorem ag1(T:aT)(hk:k<T.length):(allT T)[k]?=some (iD T k):=by simp[allT,hk]
theorem aAu(v:Value)(T:aT)(w:World)(hv:aC Shape.nod.list w v T)(hT:ib T):
  Calls prog 118 #[.agg #[v]] w λe w'=>∃u,e=.returned u∧Shape.span.list.list.list.reads (λq=>w.heap.size≤q) w' [u] (allT T)∧BL w w':=by
 obtain⟨a,c,rfl,hc1,hc2⟩:=hv.shape;have HV:=U hv;have HT:=U hT;clear hv;have hl:=hT.len;clear hT;go_in;go_wp2;refine iQ [3] [1,3] 1 [] [(0,[0,2],1),(1,[],3)] [4,5] [] [(0,[_,_],1,_),(1,[],3,_)] [_,_] ?_;refine aH (ku ?_)
 (repeat(go_big_quiet_step (fail)));refine aH ?_
 intro w2 hb2;have IC:=Bl.call (Bl.alloc (aB w.heap.size w) _) hb2;go_wp2_with fail;refine(ank _ T w2 (HV.o.below IC) HT.o).mono ?_;rintro e w3 ⟨u,Bf,cf,vf,rfl,hO,hb3⟩;obtain⟨g,cu,rfl,hg1,hg2,_⟩:=hO.at (k:=0) ae;have HO:=U hO;clear hO;have pQ:=Bl.call hb2 hb3;go_wp2;refine dZ pQ (rW ?_);go_wp2_with fail;refine(aAv _ T w3 (HV.o.below (Bl.call IC hb3)) HT.o).mono ?_;rintro e w4 ⟨ub,Bb,cb,vb,rfl,hOb,hb4⟩
 have hBL:Shape.span.list.list.list.reads (λq=>w3.heap.size≤q∧q<w4.heap.size) w4 [ub] ((List.range T.length).map λk=>(List.range (aN T k).length).map λn=>aP (nK T (T.length-1-k)) n):=
  hOb.reads aj (λk hk=>aj) hOb.ltAll.1 (λk hk=>⟨hOb.ltAll.2.1 k hk,λj q hj hq=>hOb.ltAll.2.2 k j q hk hj hq⟩)
 obtain⟨gb,cub,rfl,_,_,_⟩:=hOb.at (k:=0) ae;have pG:=U hBL;have fu:=U (HO.o.below hb4);have hlt3:=HO.o.ltAll;have Fq:=U hlt3;have ajz:=Bl.call (Bl.call IC hb3) hb4;clear hOb hBL hlt3;go_wp2;refine bS _ rfl (qy ?_)
 (repeat(go_big_quiet_step (fail)));refine aH ?_
 intro nq;have eD:=U (Bl.drewN ajz nq);have iA:=U (fu.o.below (Bl.drewN (aB _ _) nq));have aon:Hid (Shape.span.list.list.list.reads (λq=>w3.heap.size≤q∧q<w4.heap.size) (w4.drewN nq) [.slice (some ⟨gb,0,none⟩) T.length cub] ((List.range T.length).map λk=>(List.range (aN T k).length).map λn=>aP (nK T (T.length-1-k)) n)):=U (Shape.keep _ pG.o (Same.below (Bl.drewN (aB _ _) nq)));have hz2:w.heap.size≤w2.heap.size:=IC.size;have hz3:w2.heap.size≤w3.heap.size:=hb3.size;have EG:w4.heap.size≤(w4.drewN nq).heap.size:=aV _;have aEf:=hb4.size;generalize w4.drewN nq=w5 at *;clear hb2 hb3 hb4 pQ IC ajz HO fu pG;go_wp2
 go_loopw [14] (λR5 wr=>∃(k:Nat) (vf:Nat→Nat→Value),k≤T.length∧R5=.int .i64 k∧Hid (fV w2.heap.size wr (.slice (some ⟨g,0,none⟩) T.length cu) T.length (λk=>(aN T k).length) (AJ T k 0) Bf cf vf)∧Hid (BL w wr)∧Hid (Same (λq=>w3.heap.size≤q∧q<w4.heap.size) w5 wr)∧w4.heap.size≤wr.heap.size) (λR5 _=>T.length-(intOf R5).toNat)
 case atStart=>exact⟨0,vf,ae,rfl,U (iA.o.congr (λ_ _=>rfl) (λk j _ _=>by simp[AJ])),eD,U (Same.refl _ _),EG⟩
 case round=>
  clear iA eD;obtain⟨k,vf,hk,rfl,HO,HB,tT,KO⟩:=hrel;by_cases hkt:k<T.length
  ·obtain⟨g',cu',e',_,lg,hc⟩:=HO.o.at hkt;cases e';have hpos:=HT.o.pos hkt;have aCB:=U (λ(x:Nat) (h:x<T.length)=>HT.o.node x);obtain⟨n,hn⟩:=nm ((aN T k).length);rw[hn.o]at hc hpos;have i1:(0:Int)≤(k:Int):=ae;have i2:(k:Int)<T.length:=ae;go_wp2_with fail;clear hc lg
   go_loopw [21] (λWC wi=>∃(j:Nat) (vf:Nat→Nat→Value),j≤n∧WC=.int .i64 j∧Hid (fV w2.heap.size wi (.slice (some ⟨g,0,none⟩) T.length cu) T.length (λk=>(aN T k).length) (AJ T k j) Bf cf vf)∧Hid (BL w wi)∧Hid (Same (λq=>w3.heap.size≤q∧q<w4.heap.size) w5 wi)∧w4.heap.size≤wi.heap.size) (λWC _=>n-(intOf WC).toNat)
   case atStart=>exact⟨0,vf,ae,rfl,HO,HB,tT,KO⟩
   case round=>
    clear HO HB tT KO;obtain⟨j,vf,hj,rfl,HO,HB,tT,KO⟩:=hrel;by_cases hjt:j<n
    ·have hjs:j<(aN T k).length:=iH;have hF:=HO.o.fam k hkt;have hcj:=hF.cell j hjs;have hlj:=hF.lt;have hzj:=hF.free j;have hsj:=hF.sp j hjs;obtain⟨a1,c1,e1⟩:=bv hsj;rw[e1]at hcj hsj;have HEJ:Hid (AJ T k j k j=aP (iG T k) j):=U (by simp[AJ]);rw[HEJ.o]at hcj hsj;have HSJ:=U (jT hsj);have aiI:=Shape.keep _ aon.o tT.o;obtain⟨b2,o2,cs2,e2,hr2,VG⟩:=acG aiI (k:=k) (by simpa using hkt);cases e2;obtain⟨u2,rfl,hu2⟩:=EI.1 hr2;have hc2:=VG 0 (show 0<1 from ae);have h11:Shape.span.list.list.n=1:=rfl;rw[h11]at hc2;simp only[FZ,oI,oJ,aK,lK,rZ]at hc2 hu2;obtain⟨a3,c3,rfl,_,_⟩:=(kK hu2).shape;obtain⟨b4,o4,u4,e4,lb4,hc4,Nt⟩:=(kK hu2).list_at (k:=j) (by simpa using hjs);subst e4;simp only[lK,rZ,fC,H9]at Nt hc2;obtain⟨a5,c5,rfl,_,_⟩:=Nt.shape;have HU4:=U Nt;have lV:=fe _ _ hc2;dsimp only at lV;have FN:=M5 HT.o.trk k j;have BN:=Qs HT.o.trk (T.length-1-k) j;have FB:∀s∈aP (iG T k) j,0≤s.1∧s.2≤12000:=λs hs=>by rw[←Wn]at hs;exact(Jd HT.o.ahead hkt j).2 s hs
     have BB:∀s∈aP (nK T (T.length-1-k)) j,0≤s.1∧s.2≤12000:=λs hs=>by rw[←acE]at hs;exact(Jd HT.o.back ae j).2 s hs
     have FL:=zC FN FB ae;have BL:=zC BN BB ae;have LZ:=U (And.intro FN FB);have GZ:=U BN
     have zW:Hid (∀a b,AJ T k (j+1) a b=if a=k∧b=j then inter (aP (iG T k) j) (aP (nK T (T.length-1-k)) j)else AJ T k j a b):=U (λa b=>by
      unfold AJ;by_cases e:a=k∧b=j
      ·obtain⟨rfl,rfl⟩:=e;rw[aG ae,aG ⟨rfl,rfl⟩]
      ·rw[aD e];by_cases h:a<k∨(a=k∧b<j)
       ·exact aFB
       ·rw[aD h,aD ae])
     clear e1 hsj hF aiI hr2 VG hu2 Nt FN BN FB BB;generalize aP (iG T k) j=x at *;generalize aP (nK T (T.length-1-k)) j=y at *;have j1:(0:Int)≤(j:Int):=ae;have j2:(j:Int)<n:=ae;have hnn:=hn.o;rw[hnn]at hc2;clear hnn;go_wp2;refine iQ [15] [13,15] 1 [] [(1,[0,1,2,3,4,5,6,7,8,9,10,11,12],13),(0,[14],15)] [] [] [(1,[_,_,_,_,_,_,_,_,_,_,_,_,_],13,_),(0,[_],15,_)] [] ?_;refine aH (ku ?_)
     (repeat(go_big_quiet_step (fail)));refine aH ?_
     intro w6 hb6;go_wp2_with fail;refine(adH _ _ x y w6 (HSJ.o.below hb6) (HU4.o.below hb6) LZ.o.1 GZ.o (λs hs=>by have:=LZ.o.2 s hs;omega) ae).mono ?_;rintro e w7 ⟨vm,rfl,sF,bV⟩;obtain⟨a7,c7,rfl⟩:=bv sF;have ji:=Bl.call hb6 bV;have He:=U sF;have MQ:=(ji.cell (p:=⟨Bf k,j,none⟩) hlj).trans hcj;have Oy:=(ji.frozen (p:=⟨Bf k,j,none⟩) hlj).trans hzj;have Ny:Bf k<w7.heap.size:=nH hlj ji.size;clear sF;go_wp2;refine dZ ji (iP ?_)
     (repeat(go_big_quiet_step (fail)));refine aH ?_
     intro nq;go_wp2;refine bS _ rfl (jl ?_);have hbd:=Bl.drewN ji nq;have HS2:=U ((HO.o.set (k:=k) (n:=j) (v':=.slice a7 (inter x y).length c7) (ys:=inter x y) hkt hjs hbd (fq (kJ He.o ajs) (Bl.drewN (aB _ _) nq)) (λq hq=>by have:=(He.o.lt q hq).1;have:=hb6.size;omega)).congr (L':=AJ T k (j+1)) (λ_ _=>rfl) (λa b _ _=>zW.o a b));have htk:aA (λq=>q=Bf k) wr ((w7.drewN nq).setCell ⟨Bf k,j,none⟩ (.slice a7 (inter x y).length c7)):=(aA.of_below hbd).trans (aA.setCell _ _ _ _ rfl);have hbk:=Fq.o.2.1 k hkt;have HB2:=U (aA.below HB.o htk HB.o.size (λq h=>ae));have apq:=U (tT.o.trans (htk.same (λb hb _ h=>ae)));have hz2':=htk.size;clear htk hbd hb6 bV ji MQ Oy Ny hcj hzj hc2 hc4;go_wp2;go_roundw
     case rel=>exact⟨j+1,_,ae,aY,HS2,HB2,apq,ae⟩
     case measure=>exact aFF
    ·obtain rfl:j=n:=ae
     have bL:=U (HO.o.congr (L':=AJ T (k+1) 0) (λ_ _=>rfl) (λa b _ hb=>by
      have:=hn.o;unfold AJ;by_cases h:a<k∨(a=k∧b<j)
      ·exact aFB
      ·rw[aD h,aD (by
        intro h2;apply h;rcases h2 with h2|h2
        ·by_cases e:a=k
         ·subst e;exact .inr ⟨rfl,ae⟩
         ·exact .inl ae
        ·omega)]))
     clear HO;go_wp2;go_roundw
     case rel=>exact⟨k+1,_,ae,aY,bL,HB,tT,KO⟩
     case measure=>exact aFF
  ·have hkk:k=T.length:=ae
   have qV:=U (HO.o.reads (A:=λq=>w.heap.size≤q) (LL:=allT T) (by simp[allT]) (λi hi=>by
    have hi':i<T.length:=by simpa[allT]using hi
    refine⟨by simp[allT,iD],λj hj=>?_⟩;simp only[allT,lK,rZ,iD,AJ]
    rw[aG ae]) (λq hq=>by have:=(HO.o.ltAll.1 q hq).1;omega) (λk hk=>⟨by have:=(HO.o.ltAll.2.1 k hk).1;omega,λj q hj hq=>by have:=(HO.o.ltAll.2.2 k j q hk hj hq).1;omega⟩))
   go_wp2;go_ret;exact⟨_,rfl,qV.o,HB.o⟩
theorem anb(v:Value)(T:aT)(w:World)(hv:aC Shape.nod.list w v T)(hT:ib T):
  Calls prog 67 #[.agg #[v]] w λe w'=>∃u,e=.returned (.tuple #[u,.int .i64 0])∧Shape.span.list.list.list.reads (λq=>w.heap.size≤q) w' [u] (allT T)∧BL w w':=by
 obtain⟨a,c,rfl,hc1,hc2⟩:=hv.shape;have HV:=U hv;have HT:=U hT;clear hv hT;go_in;go_wp2_with fail;refine(aAT _ T 118 #[] (λu w'=>Shape.span.list.list.list.reads (λq=>w.heap.size≤q) w' [u] (allT T)) _ (HV.o.below (Bl.alloc (aB _ _) _)) HT.o.ok (fo func118 aF rfl) (λW hb=>(aAu _ T W (HV.o.below (Bl.call (Bl.alloc (aB _ _) _) hb)) HT.o).mono λe w' ⟨u,h1,h2,h3⟩=>⟨u,h1,Shape.mono _ h2 λb _ h=>by have:=(Bl.call (Bl.alloc (aB w.heap.size w) (.cells #[.slice a T.length c] 139)) hb).size;omega,h3⟩)).mono ?_;rintro e w1 ⟨u,rfl,hL,hb⟩;have HL:=U hL;clear hL;go_wp2;refine kE (Ws rfl _ _ _) rfl ⟨u,rfl,HL.o,Bl.call (Bl.alloc (aB _ _) _) hb⟩
def ZG(g:Nat)(lb:Array Value)(p:List Sp→Bool)(w:World):Prop:=
 ∀W x u,BL w W→aC Shape.span W u x→Calls prog g (#[u]++lb) W λe w'=>e=.returned (.bool (p x))∧BL W w'
theorem avA(v:Value)(xs:List (List Sp))(g:Nat)(lb:Array Value)(p:List Sp→Bool)(w:World)(hv:aC Shape.span.list w v xs)(he:Enters prog g)(hg:ZG g lb p w):
  Calls prog 326 #[v,.func (.func g) #[] lb] w λe w'=>e=.returned (.int .i64 (fw p xs))∧BL w w':=by
 obtain⟨a,c,rfl,hc1,hc2⟩:=hv.shape;unfold maxLen at hc2;have HG:=U hg;clear hg;have he':∀(args:Array Value) (w:World),(callFunc g args).run prog w=.ok (.enter g args) w:=he;clear he;go_enter func326,ntmps326;go_wp2
 go_loopw [8] (λi wr=>∃k:Nat,k≤xs.length∧i=.int .i64 k∧BL w wr∧Hid (∀j,(hj:j<xs.length)→j<k→p xs[j]=false)) (λi _=>xs.length-(intOf i).toNat)
 case atStart=>exact⟨0,ae,rfl,aB _ _,λj _ hj=>ae⟩
 case round=>
  obtain⟨k,hk,rfl,hb,HN⟩:=hrel;by_cases hlt:k<xs.length
  ·obtain⟨b,o,u1,rfl,_,c1,L1⟩:=(hv.below hb).list_at hlt;have CALL:=U (HG.o wr xs[k] u1 hb L1);obtain⟨a9,c9,rfl,_,_⟩:=L1.shape;clear L1;have i1:(0:Int)≤(k:Int):=ae;have i2:(k:Int)<xs.length:=ae;go_wp2_with fail;refine CALL.o.mono ?_;rintro e w1 ⟨rfl,hb1⟩;clear CALL;cases hp:p xs[k]
   ·have HP:=U hp;clear hp;go_wp2;go_roundw
    case rel=>
     refine⟨k+1,ae,aY,Bl.call hb hb1,λj h1 hj=>?_⟩;by_cases e:j=k
     ·exact aFG
     ·exact HN.o j h1 ae
    case measure=>exact aFF
   ·have HF:Hid (fw p xs=k):=IY hlt hp HN.o;clear hp;go_wp2;go_ret;exact⟨gW HF.o.symm,Bl.call hb hb1⟩
  ·have HF:Hid (fw p xs=-1):=IZ (λj h1=>HN.o j h1 ae);go_wp2;go_ret;exact⟨gW HF.o.symm,hb⟩
theorem ar5(v:Value)(xs:List (List Sp))(g:Nat)(lb:Array Value)(p:List Sp→Bool)(w:World)(hv:aC Shape.span.list w v xs)(he:Enters prog g)(hg:ZG g lb p w):
  Calls prog 309 #[v,.func (.func g) #[] lb] w λe w'=>e=.returned (.bool (xs.any p))∧BL w w':=by
 have HF:Hid (decide (0≤fw p xs)=xs.any p):=U (KP p xs);go_enter func309,ntmps309;go_wp2_with (go_at_call 326;refine(avA v xs g lb p _ hv he hg).mono ?_;rintro e w' ⟨rfl,hb⟩)
 go_ret;exact⟨bu N7,qI⟩
theorem aAS(w:World):ZG 310 #[] (λs=>decide (s≠[])) w:=by
 intro W x u hb hu;obtain⟨a,c,rfl,hc1,hc2⟩:=hu.shape;have HE:Hid (decide (0<x.length)=decide (x≠[])):=U (by cases x<;>simp);show Calls prog 310 #[.slice a x.length c] W λe w'=>e=.returned (.bool (decide (x≠[])))∧_
 rw[←HE.o];go_in;go_wp2;go_ret;exact⟨bu aj,aB _ _⟩
theorem aAR(v:Value)(xs:List (List Sp))(w:World)(hv:aC Shape.span.list w v xs):
  Calls prog 265 #[v] w λe w'=>e=.returned (.bool (xs.any λs=>decide (s≠[])))∧BL w w':=by
 have HV:=U hv;obtain⟨a,c,rfl,hc1,hc2⟩:=hv.shape;clear hv;go_in;go_wp2_with fail;refine(ar5 _ xs _ #[] (λs=>decide (s≠[])) w HV.o (fo func310 aF rfl) (aAS w)).mono ?_;rintro e w1 ⟨rfl,hb⟩;go_wp2;go_ret;exact⟨bu aj,hb⟩
theorem aAB(v:Value)(T:aT)(w:World)(hv:aC Shape.nod.list w v T)(hT:ib T):
  Calls prog 206 #[.agg #[v]] w (oK (kG T) w):=by
 obtain⟨a,c,rfl,hc1,hc2⟩:=hv.shape;have HV:=U hv;have HT:=U hT;have hl:=hT.len;clear hv hT;go_in;go_wp2;refine iQ [8] [1,8] 1 [] [(1,[0,2,3,4,5],1),(1,[6,7],8)] [9] [] [(1,[_,_,_,_,_],1,_),(1,[_,_],8,_)] [_] ?_;refine aH (ku ?_);have w1:IntKind.i64.wrap ((T.length:Int)-1)=(T.length:Int)-1:=dE _ ae
 (repeat(go_big_quiet_step (fail)));refine aH ?_
 intro w2 hb2;have IC:=Bl.call (Bl.alloc (aB w.heap.size w) _) hb2;go_wp2_with fail;refine(ank _ T w2 (HV.o.below IC) HT.o).mono ?_;rintro e w3 ⟨u,Bf,cf,vf,rfl,hO,hb3⟩;obtain⟨g,cu,rfl,hg1,hg2,hc⟩:=hO.at (k:=T.length-1) ae;have Gm:=(hO.fam (T.length-1) ae).reads (c:=cf (T.length-1)) (xs:=iG T (T.length-1)) (A:=λ_=>True) (air T _) (λj hj=>by simp[aP,bN,hj]) (hO.cap _ ae).1 (hO.cap _ ae).2 trivial (λ_ _ _ _=>trivial);rw[←air]at hc Gm;have nD:Hid (aC Shape.span.list w3 _ (iG T (T.length-1))):=U Gm;have pQ:=Bl.call hb2 hb3;have auf:=Bl.call IC hb3;have i1:(0:Int)≤(T.length:Int)-1:=ae;have i2:(T.length:Int)-1<T.length:=ae;have i3:((T.length:Int)-1).toNat=T.length-1:=ae;clear hO Gm hb2 hb3;go_wp2;refine dZ pQ (iP ?_)
 (repeat(go_big_quiet_step (fail)));refine aH ?_
 intro nq;go_wp2_with fail;refine(aAR _ (iG T (T.length-1)) _ (nD.o.below (Bl.drewN (aB _ _) nq))).mono ?_;rintro e w4 ⟨rfl,hb4⟩;go_wp2;refine bS _ rfl (qy ?_)
 (repeat(go_big_quiet_step (fail)));refine aH ?_
 intro NK;go_wp2;go_ret;exact⟨bu (by simp[kG]),Bl.drewN (Bl.call (Bl.drewN auf nq) hb4) NK⟩
theorem aAq(v:Value)(T:aT)(w:World)(hv:aC Shape.nod.list w v T)(hT:ib T):
  Calls prog 145 #[.agg #[v]] w λe w'=>e=.returned (.tuple #[.bool (kG T),.int .i64 0])∧BL w w':=by
 have HC:=U (λW (hb:BL w W)=>ani v T W (hv.below hb));rw[hT.ok]at HC;have G7:=U (λW (hb:BL w W)=>aAB v T W (hv.below hb) hT);obtain⟨a,c,rfl,hc1,hc2⟩:=hv.shape;clear hv hT;go_in;go_wp2_with fail;refine(HC.o _ (Bl.alloc (aB _ _) _)).mono ?_;rintro e w1 ⟨rfl,hb1⟩;have XB:=(Bx.new (W:=w) (t:=139) (vs:=[.slice a T.length c]) rfl).next hb1;have r0:=XB.cell 0;have rl:=XB.lt;simp only[aK]at r0;have hb2:=Bl.call (Bl.alloc (aB _ _) (.cells #[.slice a T.length c] 139)) hb1;clear XB;go_wp2_with fail;refine(G7.o _ hb2).mono ?_;rintro e w2 ⟨rfl,hb3⟩;go_wp2;refine kE (Ws rfl _ _ _) rfl ⟨rfl,Bl.call hb2 hb3⟩
theorem ayL(B q o n c:Nat)(vs:List Value)(ts:Nat→List Sp)(w:World)(hX:Bx B vs w)(h9:vs[9]?=some (.slice (some ⟨q,o,none⟩) n c))(hn0:n≤1000000)
  (hsh:∀i,i<n→∃C cs u,w.cell? ⟨q,o+i,none⟩=some (.pointer (some ⟨C,0,none⟩))∧Bx C cs w∧cs[7]?=some u∧aC Shape.span w u (ts i)) :
  Calls prog 82 #[.pointer (some ⟨B,0,none⟩)] w λe w'=>∃v,e=.returned v∧Own Shape.span.list (λ_=>True) w' w.heap.size 54 v ((List.range n).map ts)∧BL w w':=by
 have x9:=(hX.cell 9).trans h9;have lB:=hX.lt;have JN:=U hsh;clear hX h9 hsh;obtain⟨i0,hi,hz0,hz1,hz2⟩:=dY Rj;go_in;go_wp2
 go_loopw [3,11] (λou iv wr=>∃k:Nat,k≤n∧iv=.int .i64 k∧Hid (Own Shape.span.list (λ_=>True) wr w.heap.size 54 ou ((List.range k).map ts))∧BL w wr) (λ_ iv _=>n-(intOf iv).toNat)
 case atStart=>exact⟨0,ae,rfl,U (by simpa using Own.nil),aB _ _⟩
 case round=>
  clear x9;obtain⟨k,hk,rfl,HO,hb⟩:=hrel;obtain⟨a5,c5,rfl⟩:=HO.o.slice;by_cases hlt:k<n
  ·obtain⟨C,cs0,u,s1,s2,s3,s4⟩:=JN.o k hlt;have lq:=fe _ _ s1;dsimp only at lq;have d1:=(hb.cell (p:=⟨q,o+k,none⟩) lq).trans s1;have d2:=((s2.next hb).cell 7).trans s3;have l2:=(s2.next hb).lt;have HT:Hid ((List.range (k+1)).map ts=(List.range k).map ts++[ts k]):=U (by simp[jq]);have hlen:((List.range k).map ts).length≤1000000:=bC;obtain⟨a8,c8,rfl,_,_⟩:=s4.shape;have BP:Hid (Shape.span.list.reads (λb=>b<w.heap.size) w [.slice a8 (ts k).length c8] (ts k)):=U (Shape.mono _ s4 (λb hb _=>hb));clear s1 s2 s3 s4;generalize (List.range k).map ts=M at *;generalize ts k=g at *;have i1:(0:Int)≤(k:Int):=ae;have i2:(k:Int)<n:=ae;have hsz:=hb.size;have ja:=HO.o.below (Bl.alloc (aB wr.heap.size wr) (.cells #[.slice a8 g.length c8] 54))
   have aou:Hid (Shape.span.list.reads (λb=>True∧some b≠(Value.slice a5 M.length c5).ownBlock) (wr.alloc (.cells #[.slice a8 g.length c8] 54)) [.slice a8 g.length c8] g):=U (Shape.mono _ (Shape.keep _ BP.o (Same.below (Bl.alloc hb _))) (λb _ hb'=>⟨trivial,λe=>by
    have h2:=(HO.o.lt b e.symm).1
    omega⟩))
   obtain⟨cs,hr,hap⟩:=K7 ja;have HR:=U hr;have vB:=U hap;clear hr hap ja;go_wp2_with (at_builtin;go_loud (refine iE (HR.o) ⟨wr.heap.size,0,none⟩ 1 1 [.slice a8 g.length c8] hi hz0 hz1 hz2 ?_);intro v' w4 hown' hgrow bY)
   have fu:=U (vB.o w4 v' g [.slice a8 g.length c8] aou.o hown' hgrow bY);have hb4:BL w w4:=gJ (Bl.alloc hb _) hgrow bC (λj hj=>(HO.o.lt j hj).1);clear hown' hgrow bY;go_roundw
   case rel=>exact⟨k+1,ae,aY,RX,hb4⟩
   case measure=>exact aFF
  ·have hkk:k=n:=ae;go_wp2;go_ret;exact⟨_,rfl,by rw[←hkk];exact HO.o,hb⟩
theorem ayK(B q o n c:Nat)(vs:List Value)(w:World)(hX:Bx B vs w)(h9:vs[9]?=some (.slice (some ⟨q,o,none⟩) n c))(hn0:n≤1000000):
  Calls prog 142 #[.pointer (some ⟨B,0,none⟩)] w λe w'=>∃v,e=.returned v∧w'.ownsRow w.heap.size 3 1 v n (List.replicate n (.int .i64 0))∧BL w w':=by
 have x9:=(hX.cell 9).trans h9;have lB:=hX.lt;clear hX h9;obtain⟨i0,hi,hz0,hz1,hz2⟩:=dY akt;obtain⟨w4,hrun,hown,hg⟩:=RU (P:=prog) (w:=w) w.heap.size 53 3 i0 (.int .i64 0) 1 underlying53 hi hz0 hz1 .i64 .i64 n ae Lf lD (aV _)
 have hcells:(madeCells (Value.int .i64 0).cells (n*1)).toList=List.replicate n (.int .i64 0):=by
  refine oD WJ λj h1 h2=>?_;simp[madeCells,Value.cells,Uw]
 rw[hcells]at hown;have HOWN:=U hown;have hb4:BL w w4:=gJ (aB _ _) hg (aV _) (λj hj=>MR);clear hown hg hcells hi hz0 hz1 hz2;go_in;go_wp2;go_ret;exact⟨_,rfl,HOWN.o,hb4⟩
structure yZ(n:Nat)(hs:Nat→Sp)(ts:Nat→List Sp)(bd:List (List Int)):Prop where
 n1:1≤n∧n≤64
 hs:∀i,i<n→0≤(hs i).1∧(hs i).1≤(hs i).2∧(hs i).2≤4000
 ts:∀i,i<n→bF (ts i)∧∀s∈ts i,0≤s.1∧s.2≤12000
 bd:bd.length=n∧∀r∈bd,r.length=n∧∀x∈r,0≤x∧x≤10000000
structure Cz(B q o n c:Nat)(vs:List Value)(hs:Nat→Sp)(ts:Nat→List Sp)(bd:List (List Int))(w:World):Prop where
 bx:Bx B vs w
 s9:vs[9]?=some (.slice (some ⟨q,o,none⟩) n c)
 s10:∃vb,vs[10]?=some vb∧aC Shape.int.list w vb bd
 sh:∀i,i<n→∃C cs u,w.cell? ⟨q,o+i,none⟩=some (.pointer (some ⟨C,0,none⟩))∧Bx C cs w∧cs[5]?=some (.int .i64 (hs i).1)∧cs[6]?=some (.int .i64 (hs i).2)∧cs[7]?=some u∧aC Shape.span w u (ts i)
theorem Cz.below{n:Nat}{hs:Nat→Sp}{ts:Nat→List Sp}{bd:List (List Int)}{w:World}(h:Cz B q o n c vs hs ts bd w)(hb:BL w w'):Cz B q o n c vs hs ts bd w':=by
 refine⟨h.bx.next hb,h.s9,?_,λi hi=>?_⟩
 ·obtain⟨vb,h1,h2⟩:=h.s10;exact⟨vb,h1,h2.below hb⟩
 ·obtain⟨C,cs,u,h1,h2,h3,h4,h5,h6⟩:=h.sh i hi;exact⟨C,cs,u,(hb.cell (fe _ _ h1)).trans h1,h2.next hb,h3,h4,h5,h6.below hb⟩
theorem acr:∀ {l:List Sp} {a b:Int},bF l→(∀s∈l,a≤s.1∧s.2≤b)→a≤b+1→((uP l).length:Int)≤b+1-a
 |[],a,b,_,_,h=>by simp[uP];omega
 |s::l,a,b,h,hb,_=>by
  obtain⟨h1,h2,h3⟩:=rH.1 h;have hs:=hb s aj;have:=acr (l:=l) (a:=s.2+1) (b:=b) h3 (λt ht=>⟨aa7,(hb t GD).2⟩) ae;have e:uP (s::l)=((List.range (s.2+1-s.1).toNat).map λ(k:Nat)=>s.1+(k:Int))++uP l:=by simp[uP]
  rw[e,dn,fC,H9];omega
theorem adj{x:Int}{h:Sp}(h1:0≤h.1)(h2:h.1≤h.2)(h3:h.2≤4000)(x1:0≤x)(x2:x≤12000):0≤(eZ x h).1∧(eZ x h).1≤(eZ x h).2∧(eZ x h).2≤18000:=by
 have a:=R8 x1 h1;have b:=R8 x1 h2;have d:sP x 0=x:=by simp[sP]
 have e:sP x h.2≤18000:=by
  unfold sP
  have:x*h.2 / 8000≤6000:=by
   have h4:x*h.2≤12000*4000:=by
    have:=Zi h3 x1;have:=Ui x2 (show(0:Int)≤4000 from ae);omega
   omega
  omega
 dsimp only[eZ];omega
section
variable {n:Nat} {hs:Nat→Sp} {ts:Nat→List Sp} {bd:List (List Int)} (hD:yZ n hs ts bd)
include hD
theorem yZ.short(i:Nat)(hi:i<n):(sD (hs i) (ts i) (ts i).length).length≤12001:=by
 have:=acr (hD.ts i hi).1 (hD.ts i hi).2 ae;unfold sD;rw[jc,fC];omega
theorem yZ.coast(i:Nat)(hi:i<n):bF (zi (hs i) (ts i))∧∀s∈zi (hs i) (ts i),0≤s.1∧s.2≤18000:=by
 refine⟨oQ _,NJ λs h=>?_⟩;obtain⟨x,hx,rfl⟩:=dz.1 h;obtain⟨t,ht,h1,h2⟩:=NP.1 hx;have h3:=(hD.ts i hi).2 t ht;have h4:=hD.hs i hi;have:=adj (x:=x) h4.1 h4.2.1 h4.2.2 ae ae;omega
end
theorem U0(hs:Nat→Sp)(ts:Nat→List Sp)(n i:Nat)(hi:i<n):aP (yh hs ((List.range n).map ts) n) i=zi (hs i) (ts i):=by
 unfold yh;rw[Bh hi]
 congr 1
 rw[Bh hi]
theorem alv(n i:Nat):eQ (List.replicate n 0) i=0:=by
 unfold eQ;by_cases h:i<n
 ·exact aFE
 ·exact aFE
def pY(hs:Nat→Sp)(ts:Nat→List Sp)(n:Nat):List (List Sp):=yh hs ((List.range n).map ts) n
theorem vZ(hs:Nat→Sp)(ts:Nat→List Sp)(n:Nat):(pY hs ts n).length=n:=by simp[pY,yh]
theorem aCy{w:World}{n:Nat}(h:w.ownsRow base 3 1 v n (List.replicate n (.int .i64 0))):pK 3 base w v (List.replicate n 0):=by
 show w.ownsRow _ _ _ _ _ _
 rw[Nv,List.map_replicate,agm];exact h
section
variable {B q o n c:Nat} {vs:List Value} {hs:Nat→Sp} {ts:Nat→List Sp} {bd:List (List Int)} {w:World}
theorem WQ(hD:yZ n hs ts bd){m:Nat→Int}(hm:tY (pY hs ts n) (iU bd) m)(hi:i<n):0≤m i:=by
 have h:=hm.mem i (by rw[vZ];exact hi);rw[pY,U0 hs ts n i hi]at h;obtain⟨s,hs',h1,_⟩:=h;have:=(hD.coast i hi).2 s hs';omega
theorem ahk(GM Oo:Value)(sets:List (List Sp))(dW:List Int)(hR:Cz B q o n c vs hs ts bd w)(hD:yZ n hs ts bd)(hv:aC Shape.span.list w GM sets)(hf:aC Shape.int w Oo dW)(hl:sets.length=n)(hfl:dW.length=n)
  (hsn:∀l∈sets,bF l∧∀s∈l,0≤s.1∧s.2≤200000) (Nk:∀x∈dW,0≤x∧x≤300000) :
  Calls prog 141 #[.pointer (some ⟨B,0,none⟩),GM,Oo] w λe w'=>BL w w'∧
   ((∃v l,e=.returned (.tuple #[v,.bool true])∧pK 3 w.heap.size w' v l∧l.length=sets.length∧Zm sets (iU bd) (eQ dW) (eQ l))∨
    (e=.returned (.tuple #[.slice none 0 0,.bool false])∧¬ ∃m,tY sets (iU bd) m∧∀j,j<sets.length→eQ dW j≤m j)):=by
 obtain⟨vb,h1,h2⟩:=hR.s10;have:=hD.n1;exact ayl B vs vb GM Oo bd sets dW w hR.bx h1 h2 hv hf ae ae (by rw[hl];exact hD.bd.1) (λr hr=>by rw[hl];exact hD.bd.2 r hr) hsn Nk
theorem alC(hR:Cz B q o n c vs hs ts bd w)(hD:yZ n hs ts bd):Calls prog 82 #[.pointer (some ⟨B,0,none⟩)] w λe w'=>∃v,e=.returned v∧Own Shape.span.list (λ_=>True) w' w.heap.size 54 v ((List.range n).map ts)∧BL w w':=
 ayL B q o n c vs ts w hR.bx hR.s9 (by have:=hD.n1;omega) (λi hi=>by
  obtain⟨C,cs,u,h1,h2,_,_,h5,h6⟩:=hR.sh i hi
  exact⟨C,cs,u,h1,h2,h5,h6⟩)
theorem ahB(vl:Value)(hR:Cz B q o n c vs hs ts bd w)(hD:yZ n hs ts bd)(hv:aC Shape.span.list w vl ((List.range n).map ts)):
  Calls prog 81 #[.pointer (some ⟨B,0,none⟩),vl] w λe w'=>∃v,e=.returned v∧aC Shape.span.list w' v (pY hs ts n)∧BL w w':=by
 have hl:((List.range n).map ts).length=n:=aj;refine(ayw B q o n c vs vl hs ((List.range n).map ts) w hR.bx hR.s9 (by have:=hD.n1;omega) (λi hi=>?_) ae hv (λl hl' s hs'=>?_) (λi hi=>?_)).mono ?_
 ·obtain⟨C,cs,u,h1,h2,h3,h4,_,_⟩:=hR.sh i hi;exact⟨C,cs,h1,h2,h3,h4,hD.hs i hi⟩
 ·obtain⟨i,hi,rfl⟩:=dz.1 hl';exact(hD.ts i (fD.1 hi)).2 s hs'
 ·have hi':i<n:=Oe;have:=hD.short i hi';simp only[lK,rZ];omega
 ·rintro e w' ⟨v,rfl,hO,hb⟩;rw[hl]at hO;exact⟨v,rfl,hO.list,hb⟩
theorem akV(hR:Cz B q o n c vs hs ts bd w)(hD:yZ n hs ts bd):Calls prog 142 #[.pointer (some ⟨B,0,none⟩)] w λe w'=>∃v,e=.returned v∧pK 3 w.heap.size w' v (List.replicate n 0)∧BL w w':=
 (ayK B q o n c vs w hR.bx hR.s9 (by have:=hD.n1;omega)).mono λe w' ⟨v,h1,h2,h3⟩=>⟨v,h1,aCy h2,h3⟩
theorem amB(hD:yZ n hs ts bd):∀l∈pY hs ts n,bF l∧∀s∈l,0≤s.1∧s.2≤200000:=by
 intro l hl;unfold pY yh at hl;obtain⟨i,hi,rfl⟩:=dz.1 hl;have hi:=fD.1 hi;rw[Bh hi];exact⟨(hD.coast i hi).1,λs hs'=>by have:=(hD.coast i hi).2 s hs';omega⟩
end
theorem acV(B q o n c:Nat)(vs:List Value)(hs:Nat→Sp)(ts:Nat→List Sp)(bd:List (List Int))(w:World)(hR:Cz B q o n c vs hs ts bd w)(hD:yZ n hs ts bd):
  Calls prog 79 #[.pointer (some ⟨B,0,none⟩)] w λe w'=>BL w w'∧∃b,e=.returned (.bool b)∧(b=true↔∃m,tY (pY hs ts n) (iU bd) m):=by
 have HR:=U hR;have HD:=U hD;clear hR hD;go_in;go_wp2_with fail;refine(alC HR.o HD.o).mono ?_;rintro e w1 ⟨v1,rfl,hO1,hb1⟩;obtain⟨a1,c1,rfl⟩:=hO1.slice;have eO:=U hO1.list;clear hO1;rw[show((List.range n).map ts).length=n from aj]at eO ⊢;have HR1:=U (HR.o.below hb1);go_wp2_with fail;refine(ahB _ HR1.o HD.o eO.o).mono ?_;rintro e w2 ⟨v2,rfl,hL2,hb2⟩;obtain⟨a2,c2,rfl,_,_⟩:=hL2.shape;have HL2:=U hL2;clear hL2;have HR2:=U (HR1.o.below hb2);have jy:=Bl.call hb1 hb2;go_wp2_with fail;refine(akV HR2.o HD.o).mono ?_;rintro e w3 ⟨v3,rfl,hL3,hb3⟩;obtain⟨a3,c3,rfl⟩:=lu hL3;have lI:=U (RG hL3);clear hL3;rw[agm]at lI ⊢;have HR3:=U (HR2.o.below hb3);have vO:=Bl.call jy hb3;have aoL:=U (HL2.o.below hb3);clear hb1 hb2 hb3 jy;go_wp2_with fail;refine(ahk _ _ (pY hs ts n) (List.replicate n 0) HR3.o HD.o aoL.o lI.o (vZ _ _ _) aj (amB HD.o) (λx hx=>by have:=List.eq_of_mem_replicate hx;omega)).mono ?_;rintro e w4 ⟨hb4,⟨v4,l,rfl,hL4,_,hlst⟩|⟨rfl,hno⟩⟩
 ·obtain⟨a4,c4,rfl⟩:=lu hL4;have HS:=U hlst.1;clear hL4 hlst;go_wp2;go_ret;exact⟨Bl.call vO hb4,_,rfl,λ_=>⟨_,HS.o⟩,λ_=>rfl⟩
 ·have HN:=U hno;clear hno;go_wp2;go_ret;refine⟨Bl.call vO hb4,_,rfl,aj,λ⟨m,hm⟩=>?_⟩;exact(HN.o ⟨m,hm,λj hj=>by rw[alv];exact WQ HD.o hm (by rw[vZ]at hj;exact hj)⟩).elim
theorem axV{size n:Nat}{w:World}{xs:List Value}(h:w.ownsRow base e size v n xs){p:Addr}(hp:∀q,v.ownBlock=some q→q≠p.block)(u:Value):(w.setCell p u).ownsRow base e size v n xs:=
 fO h (aA.setCell (λq=>q=p.block) w p u rfl) (λq hq e=>hp q hq e)
structure agw(sets:List (List Sp))(bd:Nat→Nat→Int)(i:Nat)(xs:List Int)(fr:Int):Prop where
 sol:∀v∈xs,∃m,tY sets bd m∧m i=v
 all:∀m,tY sets bd m→m i<fr→m i∈xs
 len:(xs.length:Int)≤fr
 bd:0≤fr∧fr≤18001
 vb:∀v∈xs,0≤v∧v≤18000
def kF(xs:List Int):List Sp:=xs.map λv=>(v,v)
theorem ahT{xs:List Int}{v:Int}:Mem v (kF xs)↔v∈xs:=by
 simp only[Mem,kF,dz];constructor
 ·rintro⟨s,⟨a,ha,rfl⟩,h1,h2⟩;dsimp only at h1 h2;have:v=a:=ae;rw[this];exact ha
 ·intro h;exact⟨_,⟨v,h,rfl⟩,oo _,oo _⟩
theorem acp(n i j:Nat)(x:Int)(hi:i<n):eQ ((List.replicate n 0).set i x) j=if j=i then x else 0:=by
 rw[We _ _ _ Oe];split
 ·rfl
 ·exact alv n j
theorem ayN(B q o n c i:Nat)(vs:List Value)(hs:Nat→Sp)(ts:Nat→List Sp)(bd:List (List Int))(GM:Value)(w:World)(hR:Cz B q o n c vs hs ts bd w)(hD:yZ n hs ts bd)(hin:i<n)(hv:aC Shape.span.list w GM (pY hs ts n)):
  Calls prog 80 #[.pointer (some ⟨B,0,none⟩),GM,i] w λe w'=>∃v L,e=.returned v∧bG w.heap.size w' v L∧agx (pY hs ts n) (iU bd) i L∧BL w w':=by
 obtain⟨ap,cp,rfl,_,_⟩:=hv.shape;have HR:=U hR;have HD:=U hD;have HV:=U hv;clear hR hD hv;have hn:=HD.o.n1;obtain⟨i0,hi,hz0,hz1,hz2⟩:=dY zu;go_in;go_wp2_with fail;refine(akV HR.o HD.o).mono ?_;rintro e w1 ⟨v1,rfl,hO1,hb1⟩;have hlr:(List.replicate n (0:Int)).length=n:=agm;obtain⟨a8,c8,rfl⟩:=lu hO1;rw[hlr];obtain⟨g,rfl,hg1,hg2,_,_,_⟩:=EO hO1 (k:=i) (by rw[hlr];exact hin)
 have ol:Hid (pK 3 w.heap.size w1 (.slice (some ⟨g,0,none⟩) n c8) ((List.replicate n 0).set i 0)):=U (by
  have e:(List.replicate n (0:Int)).set i 0=List.replicate n 0:=by
   refine oD aj λk h1 h2=>?_;rw[Mw];simp
  rw[e];rw[hlr]at hO1;exact hO1)
 have HB1:=U hb1;clear hO1 hb1;go_wp2
 go_loopw [7] (λs7 wr=>∃(xs:List Int) (fr:Int),Hid (agw (pY hs ts n) (iU bd) i xs fr)∧Hid (bG w.heap.size wr s7 (kF xs))∧Hid (pK 3 w.heap.size wr (.slice (some ⟨g,0,none⟩) n c8) ((List.replicate n 0).set i fr))∧Hid (BL w wr)∧Hid (s7.ownBlock≠some g)) (λ_ wr=>(300001-intOf ((wr.cell? ⟨g,i,none⟩).getD undef)).toNat)
 case atStart=>exact⟨[],0,U ⟨aj,λm hm h=>by have:=WQ HD.o hm hin;omega,aj,ae,aj⟩,U (yC rfl),ol,HB1,U (by simp[Value.ownBlock])⟩
 case round=>
  clear ol HB1 hg2;obtain⟨xs,fr,HP,HO,HF,HB,Ai⟩:=hrel;obtain⟨a7,c7,rfl⟩:=bv HO.o;obtain⟨wo,hwo⟩:∃wo:World,wo=wr:=⟨_,rfl⟩;subst hwo;have hfr:=HP.o.bd;have hfl:((List.replicate n (0:Int)).set i fr).length=n:=aj;have nD:=U hfl
  have M8:wo.cell? ⟨g,i,none⟩=some (.int .i64 fr):=by
   obtain⟨g',e,_,_,h1,_,_⟩:=EO HF.o (k:=i) (by rw[hfl];exact hin);cases e;rw[h1];simp
  have Tk:=U M8;have hLF:=RG HF.o;clear hfl M8;go_wp2_with fail
  refine(ahk _ _ (pY hs ts n) ((List.replicate n 0).set i fr) (HR.o.below HB.o) HD.o (HV.o.below HB.o) hLF (vZ _ _ _) nD.o (amB HD.o) (λx hx=>by
   rcases List.mem_or_eq_of_mem_set hx with h|h
   ·have:=List.eq_of_mem_replicate h;omega
   ·omega)).mono ?_
  clear hLF;rintro e w4 ⟨hb4,⟨v4,l,rfl,hL4,hll,hlst⟩|⟨rfl,hno⟩⟩
  ·rw[vZ]at hll;obtain⟨a4,c4,rfl⟩:=lu hL4;have hil:i<l.length:=ae;obtain⟨g4,rfl,aDw,auB,h41,_,_⟩:=EO hL4 hil;have BS:=U hll;rw[hll];have hx:eQ l i=l[i]:=by unfold eQ;simp[List.getD_eq_getElem?_getD,hil]
   obtain⟨x,Ri⟩:=nm (l[i]);rw[Ri.o]at hx h41
   have hxb:fr≤x∧0≤x∧x≤18000:=by
    have h1:=hlst.2.1 i acU;rw[acp n i i fr hin,aG rfl,hx]at h1;have h2:=hlst.1.mem i acU;rw[pY,U0 hs ts n i hin,hx]at h2;obtain⟨s,hs',h3,h4⟩:=h2;have:=(HD.o.coast i hin).2 s hs';omega
   have Pg:Hid (agw (pY hs ts n) (iU bd) i (xs++[x]) (x+1)):=U (by
    have h0:=HP.o;refine⟨λv hv=>?_,λm hm h=>?_,by rw[dn,Uo];have:=h0.len;omega,ae,λv hv=>?_⟩
    ·rcases oH.1 hv with hv|hv
     ·exact h0.sol v hv
     ·simp at hv;exact⟨eQ l,hlst.1,by rw[hx,hv]⟩
    ·by_cases h1:m i<fr
     ·exact List.mem_append_left _ (h0.all m hm h1)
     ·have h2:=hlst.2.2 m hm (λj hj=>by
       rw[vZ]at hj;rw[acp n i j fr hin];split
       ·rename_i e;subst e;omega
       ·exact WQ HD.o hm hj) i acU
      rw[hx]at h2;exact List.mem_append_right _ bC
    ·rcases oH.1 hv with hv|hv
     ·exact h0.vb v hv
     ·simp at hv;omega)
   have hxl:(kF xs).length≤18001:=by have:=HP.o.len;simp[kF];omega
   have LX:Hid (kF (xs++[x])=kF xs++[(x,x)]):=U (by simp[kF]);have HOo:=HO;replace HO:=U (fq HO.o hb4);replace HF:=U (il HF.o hb4);have hb:=Bl.call HB.o hb4;have bX:=U hb4;have i1:(0:Int)≤(i:Int):=ae;have i2:(i:Int)<n:=ae;have hD4:Hid (∀q,(Value.slice a7 (kF xs).length c7).ownBlock=some q→q≠g4):=U (λq hq e=>by have:=(HOo.o.lt q hq).2;omega)
   have n4:¬g4=g:=λe=>by
    have:=(HB.o).size;obtain⟨g',e',h1,h2,_,_,_⟩:=EO HF.o (k:=i) acM;cases e';have:=fe _ _ Tk.o;dsimp only at this;omega
   clear hL4 hlst hx;generalize kF xs=D at *;go_wp2;refine iQ [11] [10,11] 1 [] [(0,[0,1,2,3,4,5,6,7,8,9],10),(1,[],11)] [12] [] [(0,[_,_,_,_,_,_,_,_,_,_],10,_),(1,[],11,_)] [_] ?_;refine aH (ku ?_)
   (repeat(go_big_quiet_step (fail)));refine aH ?_
   intro w2 hb2;have bL:=U (fq HO.o hb2);have tH:=U (il HF.o hb2);have hb3:=Bl.call hb hb2;have hz3:=hb3.size;have Z5:=(hb2.cell (p:=⟨g4,i,none⟩) auB).trans h41;go_wp2;refine dZ (Bl.alloc hb2 _) (rW ?_);go_wp2_with (at_builtin;go_loud (refine iE (bL.o.alloc _) ⟨w2.heap.size,0,none⟩ 1 1 [x,x] hi hz0 hz1 hz2 ?_);intro v' w5 hown' hgrow bY)
   refine bS _ rfl (qy ?_)
   (repeat(go_big_quiet_step (fail)));refine aH ?_
   intro nq
   have cO:g<w2.heap.size:=by
    obtain⟨g',e',h1,h2,_,_,_⟩:=EO tH.o (k:=i) acM;cases e';exact h2
   have hne':∀q,(Value.slice a7 D.length c7).ownBlock=some q→q≠g:=λq hq e=>Ai.o (by rw[hq,e]);have tg:aA (λq=>(Value.slice a7 D.length c7).ownBlock=some q) w2 w5:=(aA.alloc _ w2 _).trans (aA.grown hgrow (λq hq=>hq));have qU:=U (fO tH.o tg (λq hq e=>hne' q e (by cases hq;rfl)));have iA:=U (fq (wW hown' rfl) (Bl.drewN (aB _ _) nq));have eD:=U (Bl.drewN (MK bL.o hgrow hb3 (aV _)) nq)
   have ae8:Hid (v'.ownBlock≠some g):=U (λe=>by
    rcases bY with h|⟨k',h,hle⟩
    ·rw[e]at h;exact hne' g h.symm rfl
    ·rw[e]at h;cases h;simp at hle;omega)
   have h4t:¬(Value.slice a7 D.length c7).ownBlock=some g4:=λe=>by
    have h1:=(bL.o.lt g4 e);exact hD4.o g4 e rfl
   have c45:=(iL (a:=⟨g4,i,none⟩) (tg.block g4 (by have:=fe _ _ Z5;exact this) h4t)).trans Z5;have l45:g4<w5.heap.size:=by have:=tg.size;have:=World.block_lt_of_cell? _ _ Z5;dsimp only at this;omega
   obtain⟨g8',e8,_,auP,abn,akp,akd⟩:=EO (il qU.o (Bl.drewN (aB _ _) nq)) (k:=i) acM;cases e8;have aDH:g<w5.heap.size:=auP;have aEl:w5.frozen? ⟨g,i,none⟩=false:=akp i
   have aum:w5.cell? ⟨g,i,none⟩=some (.int .i64 fr):=by
    have h0:((List.replicate n (0:Int)).set i fr)[i]' acM=fr:=aj;rw[h0]at abn;exact abn
   have tQ:=U (akd (x+1));have hx1:IntKind.i64.wrap (x+1)=x+1:=dE _ ae;obtain⟨a9,c9,rfl⟩:=bv hown';clear hown' hgrow bY tg abn akp akd h4t hne';go_wp2;go_roundw
   case rel=>
    refine⟨xs++[x],x+1,Pg,by rw[LX.o];exact U (axV iA.o (λq hq e=>ae8.o (by subst e;exact hq)) _),?_,U (Bl.setCell eD.o (by have:=hg1;simpa using this) _),ae8⟩;have:=tQ.o;rw[Zv]at this;exact U this
   case measure=>
    rw[Tk.o,UL _ _ _ (u:=.int .i64 fr) (by exact aum)];simp[intOf];omega
  ·have HPS:Hid (agx (pY hs ts n) (iU bd) i (norm (kF xs))):=U ⟨oQ _,λv=>by
    rw[pX,ahT];refine⟨HP.o.sol v,λ⟨m,hm,e⟩=>?_⟩;by_cases h:m i<fr
    ·rw[←e];exact HP.o.all m hm h
    ·refine(hno ⟨m,hm,λj hj=>?_⟩).elim;rw[vZ]at hj;rw[acp n i j fr hin];split
     ·rename_i e;subst e;omega
     ·exact WQ HD.o hm hj⟩
   have hxl:(kF xs).length≤18001:=by have:=HP.o.len;simp[kF];omega
   have HT:=U (together _ (kF xs) w4 (jT (fq HO.o hb4)) ae (λs hs'=>by
    obtain⟨v,hv',rfl⟩:=dz.1 hs';have:=HP.o.vb v hv'
    dsimp only;omega))
   have HB2:=U (Bl.call HB.o hb4);clear hno;generalize kF xs=D at *;go_wp2_with fail;refine HT.o.mono ?_;rintro e w5 ⟨v,rfl,hO5,hb5⟩;have iA:=U (kJ hO5 HB2.o.size);clear hO5;go_wp2;go_ret;exact⟨_,_,rfl,iA.o,HPS.o,Bl.call HB2.o hb5⟩
def ZL(hs:Nat→Sp)(ts:Nat→List Sp)(bd:List (List Int))(n i:Nat)(l:List Sp):Prop:=
 bF l∧∀x,Mem x l↔Mem x (ts i)∧∃m,tY (pY hs ts n) (iU bd) m∧(eZ x (hs i)).1≤m i∧m i≤(eZ x (hs i)).2
def Ey(h:Sp)(may:List Sp)(x:Int):Bool:=decide (inter [eZ x h] may≠[])
def wF(h:Sp)(may l:List Sp)(k:Nat):List Sp:=kF ((uP (l.take k)).filter (Ey h may))
def wE(h:Sp)(may:List Sp)(lo:Int)(j:Nat):List Sp:=kF (((List.range j).map λ(i:Nat)=>lo+(i:Int)).filter (Ey h may))
theorem ahS(a b:List Int):kF (a++b)=kF a++kF b:=by simp[kF]
theorem anl(h:Sp)(may:List Sp)(hk:k<l.length):wF h may l (k+1)=wF h may l k++wE h may l[k].1 (l[k].2+1-l[k].1).toNat:=by
 have e:uP (l.take (k+1))=uP (l.take k)++(List.range (l[k].2+1-l[k].1).toNat).map λ(i:Nat)=>l[k].1+(i:Int):=by
  unfold uP;rw[jF hk,mO,List.flatMap_singleton]
 unfold wF wE;rw[←ahS,←wS,e]
theorem aAD(h:Sp)(may:List Sp)(lo:Int)(j:Nat):wE h may lo (j+1)=wE h may lo j++(if Ey h may (lo+(j:Int))=true then [(lo+(j:Int),lo+(j:Int))]else []):=by
 unfold wE;rw[jq,iT,wS,ahS]
 congr 1
 by_cases e:Ey h may (lo+(j:Int))=true
 ·simp[e,kF]
 ·simp[e,kF]
theorem aAE{h:Sp}{may:List Sp}(hl:bF l)(hb:∀s∈l,0≤s.1∧s.2≤12000):(wF h may l l.length).length≤12001:=by
 have:=acr hl hb ae;unfold wF kF;rw[fC,jc];have:=FV (Ey h may) (uP l);omega
theorem adG(h:Sp)(may l:List Sp):∀ {k m:Nat},k≤m→m≤l.length→(wF h may l k).length≤(wF h may l m).length
 |k,0,h1,_=>by obtain rfl:k=0:=ae;exact aV _
 |k,m+1,h1,h2=>by
  by_cases e:k=m+1
  ·subst e;exact aV _
  ·have:=adG h may l (show k≤m from ae) ae;rw[anl h may (show m<l.length from ae),dn];omega
theorem auN{h:Sp}{may:List Sp}{x:Int}(hm:∀s∈may,s.1≤s.2)(hx:(eZ x h).1≤(eZ x h).2):Ey h may x=true↔∃y,(eZ x h).1≤y∧y≤(eZ x h).2∧Mem y may:=by
 unfold Ey;rw[dG];constructor
 ·intro e
  obtain⟨s,l,e2⟩:∃s l,inter [eZ x h] may=s::l:=by
   cases hi:inter [eZ x h] may with
   |nil=>exact(e hi).elim
   |cons s l=>exact⟨s,l,rfl⟩
  have hs:s∈inter [eZ x h] may:=by rw[e2];simp
  simp only[inter,jN,J5,ow,r9,dz,dG]at hs;obtain⟨⟨t,ht,rfl⟩,h2⟩:=hs;dsimp only at h2;exact⟨max (eZ x h).1 t.1,ae,ae,t,ht,ae,ae⟩
 ·rintro⟨y,h1,h2,h3⟩ e;have:Mem y (inter [eZ x h] may):=Bd.2 ⟨⟨_,aj,h1,h2⟩,h3⟩;rw[e]at this;exact gU y this
theorem acJ(B q o n c i:Nat)(vs:List Value)(hs:Nat→Sp)(ts:Nat→List Sp)(bd:List (List Int))(w:World)(hR:Cz B q o n c vs hs ts bd w)(hD:yZ n hs ts bd)(hin:i<n):
  Calls prog 40 #[.pointer (some ⟨B,0,none⟩),i] w λe w'=>∃v L,e=.returned v∧bG w.heap.size w' v L∧ZL hs ts bd n i L∧BL w w':=by
 have HR:=U hR;have HD:=U hD;clear hR hD;have hn:=HD.o.n1;obtain⟨i0,hi,hz0,hz1,hz2⟩:=dY zu;go_in;go_wp2_with fail;refine(alC HR.o HD.o).mono ?_;rintro e w1 ⟨v1,rfl,hO1,hb1⟩;obtain⟨a1,c1,rfl⟩:=hO1.slice;have eO:=U hO1.list;clear hO1;rw[show((List.range n).map ts).length=n from aj]at eO ⊢;have HR1:=U (HR.o.below hb1);go_wp2_with fail;refine(ahB _ HR1.o HD.o eO.o).mono ?_;rintro e w2 ⟨v2,rfl,hL2,hb2⟩;obtain⟨a2,c2,rfl,_,_⟩:=hL2.shape;have HL2:=U hL2;clear hL2;have HR2:=U (HR1.o.below hb2);have jy:=Bl.call hb1 hb2;go_wp2_with fail;refine(ayN B q o n c i vs hs ts bd _ w2 HR2.o HD.o hin HL2.o).mono ?_;rintro e w3 ⟨v3,may,rfl,hO3,hP,hb3⟩;obtain⟨a3,c3,rfl⟩:=bv hO3;have lI:=U (jT hO3);have HP:=U hP;have vO:=Bl.call jy hb3;have HR3:=U (HR2.o.below hb3)
 have Fs:Hid (∀s∈may,s.1≤s.2∧0≤s.1∧s.2≤18000):=U (λs hs'=>by
  have hv:=hP.1.1 s hs'
  have key:∀v,Mem v may→0≤v∧v≤18000:=λv hv=>by
   obtain⟨m,hm,rfl⟩:=(hP.2 v).1 hv;have h:=hm.mem i acU;rw[pY,U0 hs ts n i hin]at h;obtain⟨t,ht,h1,h2⟩:=h;have:=(HD.o.coast i hin).2 t ht;omega
  have h1:=key s.1 ⟨s,hs',oo _,hv⟩;have h2:=key s.2 ⟨s,hs',hv,oo _⟩
  omega)
 have VK:may.length≤18001:=by
  have:=zC (a:=0) (b:=18000) hP.1 (λs hs'=>by have:=Fs.o s hs';omega) ae;omega
 clear hO3 hP hb1 hb2 hb3 jy;obtain⟨C,cs,u,s1,s2,s3,s4,s5,s6⟩:=HR3.o.sh i hin;obtain⟨a6,c6,rfl,aDp,aul⟩:=s6.shape;unfold maxLen at aul;have x9:=(HR3.o.bx.cell 9).trans HR3.o.s9;have lB:=HR3.o.bx.lt;have l1:=fe _ _ s1;dsimp only at l1;have y7:=(s2.cell 7).trans s5;have l2:=s2.lt;have Ht:=U s6;have YV:=U (λW (hb:BL w3 W) (x:Int) (h1:0≤x) (h2:x≤12000)=>al3 B q o n c C i vs cs x (hs i).1 (hs i).2 W (HR3.o.bx.next hb) HR3.o.s9 hin ae ((hb.cell (p:=⟨q,o+i,none⟩) l1).trans s1) (s2.next hb) s3 s4 h1 h2 (HD.o.hs i hin).1 (HD.o.hs i hin).2.1 (HD.o.hs i hin).2.2);have Ce:=U (HD.o.ts i hin);have HHB:=U (HD.o.hs i hin);have HSD:=U (λ(x:Int) (h1:0≤x) (h2:x≤12000)=>adj (HD.o.hs i hin).1 (HD.o.hs i hin).2.1 (HD.o.hs i hin).2.2 h1 h2);have j1:(0:Int)≤(i:Int):=ae;have j2:(i:Int)<n:=ae;have htl:=aAE (h:=hs i) (may:=may) Ce.o.1 Ce.o.2
 have yK:Hid (ZL hs ts bd n i (norm (wF (hs i) may (ts i) (ts i).length))):=U ⟨oQ _,λx=>by
  rw[pX];unfold wF;rw[ahT,jc,r9,NP];refine ag5 λhx=>?_;obtain⟨t,ht,h1,h2⟩:=hx;have hb:=Ce.o.2 t ht;have hsd:=HSD.o x ae ae;rw[auN (λs hs'=>(Fs.o s hs').1) ae];constructor
  ·rintro⟨y,g1,g2,g3⟩;obtain⟨m,hm,rfl⟩:=(HP.o.2 y).1 g3;exact⟨m,hm,g1,g2⟩
  ·rintro⟨m,hm,g1,g2⟩
   exact⟨m i,g1,g2,(HP.o.2 _).2 ⟨m,hm,rfl⟩⟩⟩
 have LX:Hid (∀s∈wF (hs i) may (ts i) (ts i).length,-100000≤s.1∧s.1≤s.2∧s.2≤100000):=U (λs hs'=>by
  unfold wF kF at hs';obtain⟨x,hx,rfl⟩:=dz.1 hs';have hx2:=(r9.1 hx).1;rw[jc]at hx2;obtain⟨t,ht,h1,h2⟩:=NP.1 hx2;have:=Ce.o.2 t ht
  dsimp only;omega)
 clear s2 s3 s4 s5 s6;generalize hs i=h at *;generalize ts i=l at *;go_wp2_with fail;clear y7 x9 s1
 go_loopw [6,28] (λou iv wr=>∃k:Nat,k≤l.length∧iv=.int .i64 k∧Hid (bG w3.heap.size wr ou (wF h may l k))∧BL w3 wr) (λ_ iv _=>l.length-(intOf iv).toNat)
 case atStart=>exact⟨0,ae,rfl,U (yC (by simp[wF,uP,kF])),aB _ _⟩
 case round=>
  obtain⟨k,hk,rfl,HO,hb⟩:=hrel;obtain⟨a5,c5,rfl⟩:=bv HO.o;by_cases hlt:k<l.length
  ·obtain⟨q1,o1,e1,d1,d2⟩:=(Ht.o.below hb).span_at hlt;subst e1;have HT:=U (anl h may hlt);have hln:=adG h may l (show k+1≤l.length from ae) (aV _);have hol:=adG h may l (show k≤l.length from ae) (aV _);have hB:=Ce.o.2 _ (eu hlt)
   have tN:Hid (∀j,(wE h may l[k].1 j).length≤j):=U (λj=>by
    have:=FV (Ey h may) ((List.range j).map λ(i:Nat)=>l[k].1+(i:Int))
    unfold wE kF;rw[List.length_map];simp only[List.length_map,List.length_range]at this;exact this)
   generalize l[k]=s at *;obtain⟨s0,s1⟩:=s;simp only at d1 d2 hB HT tN;have i1:(0:Int)≤(k:Int):=ae;have i2:(k:Int)<l.length:=ae;generalize hM:wF h may l k=M at *;obtain⟨S,hS⟩:∃S,S=wr.heap.size:=⟨_,rfl⟩;have za:=U (Bx.new (W:=wr) (B:=S) (t:=41) (vs:=[.int .i64 s0,.int .i64 s1]) hS.symm);have vD:Hid (∀q,(Value.slice a5 M.length c5).ownBlock=some q→q≠S):=U (λq hq=>aji);have xK:=U (fq HO.o (Bl.alloc (aB wr.heap.size wr) (.cells #[s0,s1] 41)));have hbS:=Bl.alloc hb (.cells #[s0,s1] 41);go_wp2;rw[←hS];have hSl:w3.heap.size≤S:=QT;clear d1 d2 HO hb hM hln
   go_loopw [6,9] (λou jv wi=>∃j:Nat,j≤(s1+1-s0).toNat∧jv=.int .i64 (s0+j)∧Hid (bG w3.heap.size wi ou (M++wE h may s0 j))∧BL w3 wi∧Hid (Bx S [s0,s1] wi)∧Hid (∀q,ou.ownBlock=some q→q≠S)) (λ_ jv _=>(s1+1-intOf jv).toNat)
   case atStart=>exact⟨0,ae,aj,by simpa[wE,kF]using xK,hbS,za,vD⟩
   case round=>
    clear xK za vD hbS hS;obtain⟨j,hj,rfl,HO,hb,XS,qB⟩:=hrel;obtain⟨a6,c6,rfl⟩:=bv HO.o;have q0:=XS.o.cell 0;have q3:=XS.o.cell 1;have ql:=XS.o.lt;simp only[aK,bB]at q0 q3;by_cases hlj:j<(s1+1-s0).toNat
    ·have dj:decide (s0+(j:Int)≤s1)=true:=bC;have jE:Hid (M++wE h may s0 (j+1)=(M++wE h may s0 j)++(if Ey h may (s0+(j:Int))=true then [(s0+(j:Int),s0+(j:Int))]else [])):=U (by rw[aAD,yS]);have hcl:=tN.o j;have hlen:(M++wE h may s0 j).length≤1000000:=amj;have CALL:=U (YV.o wr hb (s0+(j:Int)) ae ae);have Yo:Hid (Ey h may (s0+(j:Int))=decide (inter [eZ (s0+(j:Int)) h] may≠[])):=U rfl;generalize eZ (s0+(j:Int)) h=g at *;obtain⟨g1,g2⟩:=g;generalize M++wE h may s0 j=Z at *;have KA:IntKind.i64.wrap (s0+(j:Int)+1)=s0+(j:Int)+1:=dE _ ae;obtain⟨x,hx⟩:=nm (s0+(j:Int));rw[hx.o]at dj KA CALL Yo jE;rw[hx.o];go_wp2_with fail;refine CALL.o.mono ?_;rintro e w1' ⟨rfl,hb1⟩;have bL:=U (fq HO.o hb1);have Ie:=U (XS.o.next hb1);have hb2:=Bl.call hb hb1;clear CALL;go_wp2_with fail;have eO:Hid (aC Shape.span (w1'.alloc (.cells #[g1,g2] 41)) (.slice (some ⟨w1'.heap.size,0,none⟩) 1 1) [(g1,g2)]):=U (jT (MI (base:=0) (size:=2) (e:=41) w1' #[g1,g2] 1 ae qN rfl));refine(anJ _ _ [(g1,g2)] may _ eO.o (lI.o.below (Bl.alloc hb2 _)) bC).mono ?_;rintro e w4 ⟨vm,rfl,hOm,hb4⟩;obtain⟨am,cm,rfl⟩:=bv hOm;clear hOm;have mD:=Bl.call (Bl.alloc (aB w1'.heap.size w1') (.cells #[g1,g2] 41)) hb4;have fu:=U (fq bL.o mD)
     have Gb:=U (Ie.o.next mD);have IG:=Bl.call hb2 mD;clear hb1 hb2 hb4 mD bL Ie eO q0 q3 ql;have q0:=Gb.o.cell 0;have q3:=Gb.o.cell 1;have ql:=Gb.o.lt;simp only[aK,bB]at q0 q3;generalize inter [(g1,g2)] may=I at *;by_cases hI:I=[]
     ·subst hI;have Hr:Hid (M++wE h may s0 (j+1)=Z):=U (by rw[jE.o,aD (by rw[Yo.o];simp),ow]);go_wp2;go_roundw
      case rel=>exact⟨j+1,ae,aze,by rw[Hr.o];exact fu,IG,Gb,qB⟩
      case measure=>have:=hx.o;simp[intOf];omega
     ·have Hr:Hid (M++wE h may s0 (j+1)=Z++[(x,x)]):=U (by rw[jE.o,aG (by rw[Yo.o];simpa using hI)])
      have hIl:0<I.length:=by cases I;(exact(hI rfl).elim);simp
      have t1:decide (0<I.length)=true:=by simpa using hIl
      have t2:decide ((0:Int)<I.length)=true:=bC;have hsz:=IG.size;clear hI;go_wp2_with (at_builtin;go_loud (refine iE (fu.o.alloc _) ⟨w4.heap.size,0,none⟩ 1 1 [x,x] hi hz0 hz1 hz2 ?_);intro v' w5 hown' hgrow bY)
      have iA:=U (wW hown' rfl);have hb5:=MK fu.o hgrow IG (aV _);have XS5:=U ((Gb.o.alloc _).grown hgrow (λe=>qB.o S e.symm rfl))
      have Me:Hid (∀q,v'.ownBlock=some q→q≠S):=U (λq hq=>by
       rcases bY with e|⟨k',e,hle⟩
       ·exact qB.o q (e ▸ hq)
       ·rw[hq]at e;cases e;simp at hle;omega)
      clear hown' hgrow bY;go_roundw
      case rel=>exact⟨j+1,ae,aze,by rw[Hr.o];exact iA,hb5,XS5,Me⟩
      case measure=>have:=hx.o;simp[intOf];omega
    ·have dj:decide (s0+(j:Int)≤s1)=false:=bC;have hjj:j=(s1+1-s0).toNat:=ae;have HE:Hid (bG w3.heap.size wr (.slice a6 (M++wE h may s0 j).length c6) (wF h may l (k+1))):=U (by rw[HT.o,←hjj];exact HO.o);clear HO;go_wp2;go_roundw
     case rel=>exact⟨k+1,ae,aY,HE,hb⟩
     case measure=>exact aFF
  ·have hkk:k=l.length:=ae;rw[←hkk]at yK LX htl;have hsz:=hb.size;generalize wF h may l k=M at *;have HG:=U (together _ M wr (jT HO.o) ae LX.o);go_wp2_with fail;refine HG.o.mono ?_;rintro e w2 ⟨v,rfl,hO,hb2⟩;have HR:=U hO;clear hO;have hb3:=Bl.call vO hb;go_wp2;go_ret;exact⟨_,_,rfl,kJ HR.o hb3.size,yK.o,Bl.call hb3 hb2⟩
end
end Go.Proofs.YtfmckbjeofiegaaGreat
