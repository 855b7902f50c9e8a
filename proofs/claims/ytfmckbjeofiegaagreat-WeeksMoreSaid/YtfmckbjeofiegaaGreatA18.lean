/- Part 18 of a proof. -/
import Derived.Test.YtfmckbjeofiegaaGreatA12
import Derived.Test.YtfmckbjeofiegaaGreatA14
set_option maxRecDepth 100000
set_option maxHeartbeats 16000000
set_option linter.all false
open Go Go.RowKit Go.Proofs.Tryz
namespace Go.Proofs.YtfmckbjeofiegaaGreat
variable {y:Int}{k:Nat}{p:bU}
section
attribute [local go_sem] Qv
def mW(p:bU)(t:dF):List (Int×Sp):=(List.range (hts p t)).map λ(k:Nat)=>((fI p t).1+k,yg p t ((fI p t).1+k))
def U5(z:Int×Sp):Array Value:=#[.int .i64 z.1,.agg #[.int .i64 z.2.1,.int .i64 z.2.2]]
theorem akT(p:bU)(t:dF):(mW p t).length=hts p t:=by simp[mW]
theorem awH(p:bU)(t:dF)(hk:k<hts p t):(mW p t).take (k+1)=(mW p t).take k++[((fI p t).1+k,yg p t ((fI p t).1+k))]:=by
 have h:k<(mW p t).length:=by rw[akT];exact hk
 rw[jF h];simp[mW]
theorem ag7(hp:fA p=true)(h1:0≤y)(h2:y≤p.height):0≤gP p y∧gP p y≤160000000000:=by
 have h0:=aqF hp h1 h2;obtain⟨⟨_,_,_,hh,hr,_⟩,_⟩:=Bz.1 hp;refine⟨h0,?_⟩;unfold gP;split
 ·omega
 ·have a1:0≤y*(p.height-y):=yR h1 ae;have a2:y*(p.height-y)≤400000*400000:=Hy ae ae ae ae;have a3:=Int.ediv_le_self (2*p.radius) a1;omega
theorem awI(p:bU)(t:dF)(Bf Bt n:Nat)(w:World)(hf:pbx Bf p w)(ht:Bx Bt [t.1,t.2.1,t.2.2] w)(hp:fA p=true)(hpt:vW t=true):
  vI prog n 270 #[.pointer (some ⟨Bf,0,none⟩),.pointer (some ⟨Bt,0,none⟩)] U5 (λk=>k=Bf∨k=Bt) (λzs=>zs=mW p t) (hts p t) w (λz _=>z∈mW p t):=by
 intro l J W hW hJ hY hj0;have Fq:=U (λk (h:k<hts p t)=>awH p t h);have BS:=U (akT p t);have Fj:=U (hf.next hW);have FH:=U (ht.next hW);clear hf ht;have hpi:=Bz.1 hp;simp only[vW,dG]at hpt;obtain⟨uX,Jy,qE⟩:∃a b,Hid (fI p t=(a,b)):=⟨_,_,U rfl⟩;obtain⟨Ox,Ow,bg⟩:∃a b,Hid (tC p t=(a,b)):=⟨_,_,U rfl⟩;obtain⟨N,HN⟩:=nm (hts p t);have HNN:Hid ((Jy+1-uX).toNat=N):=by rw[Hid,←HN.o,hts,qE.o]
 have wQ:Hid (0≤uX∧uX≤450000∧Jy≤p.height):=U (by
  have h1:=qE.o;have h2:=alM (x:=t.2.1) (half:=t.2.2) (s:=p.ac) ae ae ae;unfold fI at h1;simp only[yX]at h1
  omega)
 have kR:Hid (∀k:Nat,k<N→0≤uX+k→uX+k≤p.height→∃a,gP p (uX+k)=a∧0≤a∧a≤160000000000∧(mW p t).take (k+1)=(mW p t).take k++[(uX+k,((Ox-a) / p.pitch,(Ow-a) / p.pitch))]):=U (λk hk h1 h2=>⟨_,rfl,(ag7 hp h1 h2).1,(ag7 hp h1 h2).2,by
  have:=Fq.o k (by rw[HN.o];exact hk);rw[qE.o]at this
  rw[this,yg,bg.o]⟩)
 have tK:Hid (∀k,k<N→((mW p t).take k).length<hts p t):=U (λk hk=>by rw[oF,BS.o,HN.o];omega);have Yv:Hid ((mW p t).take N=mW p t):=U (by rw[←HN.o,←BS.o];exact jc);generalize mW p t=L at *;generalize hts p t=NN at *;clear Fq BS HN;obtain⟨x1,x2,x3,x4,x5,x6,⟨x7,x8⟩,⟨x9,dL⟩⟩:=p;obtain⟨t1,t2,t3⟩:=t;simp only at hpi hpt Fj FH wQ;obtain⟨⟨pa,pb,pc,pd,pe,pf,pg,ph,pi,pj,pk⟩,⟨pl,pm,pn⟩,po,pq,pr⟩:=hpi;obtain⟨ta,tb,tc,td,te,tf⟩:=hpt;have HXB:=U (alM (x:=t1) (half:=t3) (s:=(x7,x8)) ⟨ta,tb⟩ ⟨te,tf⟩ ⟨pl,pm,pn⟩);have bP:Hid (rO t1 t3 (x7,x8)=(Ox,Ow)):=U (by have:=bg.o;rw[tC]at this;exact this);rw[bP.o]at HXB;have hxb:=HXB.o;simp only at hxb;obtain⟨xa,xb,xc,xd⟩:=hxb;have hyb:=wQ.o;obtain⟨ya,yb,yc⟩:=hyb;have HJ:=U hJ;have HY:=U hY;clear hJ hY;have hj0:=U hj0;have q1:=Fj.o.lt;have q2:=FH.o.lt;have aCL:Hid (Bf<W.heap.size∧Bt<W.heap.size):=U ⟨q1,q2⟩;have LZ:Hid (Bx Bf [x1,x2,x3,x4,x5,x6,x7,x8,x9,dL] W):=U Fj.o;have cf:=LZ.o.cell;have ct:=FH.o.cell;have r3:(0:Int)≤x3∧x3≤4000000:=ae;obtain⟨r3a,r3b⟩:=r3
 refine xV func270 rfl trivial ?_ rfl;simp only[ntmps270,jb,dS,fU,Nat.reduceAdd,Nat.reduceSub,kv,kw,kC,kz,fE,gB];have hfn:∀k,Fence.wide.fn k:=(λ_=>trivial);have hdp:¬(Fence.wide.depth.isSome=true):=kL;gi_wp2_with fail;have nz:Hid (∀W',Calls prog 271 #[.agg #[x1,x2,x3,x4,x5,x6,x7,x8,x9,dL],.agg #[t1,t2,t3]] W' λe w''=>e=.returned (.agg #[Ox,Ow])∧BL W' w''):=U λW'=>(asO x1 x2 x3 x4 x5 x6 x7 x8 x9 dL t1 t2 t3 W' ta tb te tf pl pm pn).mono λ_ _ h=>⟨by rw[h.1,bP.o],h.2⟩;have OX:Hid (∀W',Calls prog 272 #[.agg #[x1,x2,x3,x4,x5,x6,x7,x8,x9,dL],.agg #[t1,t2,t3]] W' λe w''=>e=.returned (.agg #[uX,Jy])∧BL W' w''):=U λW'=>(asS x1 x2 x3 x4 x5 x6 x7 x8 x9 dL t1 t2 t3 W' tc td te tf po pq pr).mono λ_ _ h=>⟨by rw[h.1,qE.o],h.2⟩;have HS:Hid (Ap 41 [.int .i64 0,.int .i64 0] W [] W):=U (Ap.nil W)
 obtain⟨Rj0,YM⟩:∃R:Act→World→Prop,Hid (R=λa' w'=>∃(B4 B5:Nat),(Hid (Bx B4 [Ox,Ow] w'∧Bx B5 [uX,Jy] w'∧BL W w'∧W.heap.size≤B4∧W.heap.size≤B5))∧∃us:Nat→Value,a'=Act.mk [.func (Fn.yield l) #[] #[],.pointer (some ⟨Bf,0,none⟩),.pointer (some ⟨Bt,0,none⟩),undef,.pointer (some ⟨B4,0,none⟩),.pointer (some ⟨B5,0,none⟩),undef,undef,us 8,us 9,us 10,us 11,us 12,us 13,undef,undef,undef,undef,undef,undef,undef,undef,undef,undef,undef,undef,undef,undef,undef,undef,undef,undef,undef,undef,undef,undef,undef,undef,undef,undef,undef,undef,undef,undef,undef,undef].toArray []):=⟨_,U rfl⟩;refine ad1 Rj0 ?_ ?_
 ·refine⟨?_⟩
  refine LK [8,9] [2,5,6,7,8,9] 1 [] (.three [0,1,3,4] 2 2 (.three [] 2 5 (.two [] 2 6 (.one 0 [] 7 (.one 0 [] 8 (.one 0 [] 9 (.fin [])))) 2 7 (.one 0 [] 6 (.one 0 [] 8 (.one 0 [] 9 (.fin []))))) 2 6 (.two [] 2 5 (.one 0 [] 7 (.one 0 [] 8 (.one 0 [] 9 (.fin [])))) 2 7 (.one 0 [] 5 (.one 0 [] 8 (.one 0 [] 9 (.fin []))))) 2 7 (.two [] 2 5 (.one 0 [] 6 (.one 0 [] 8 (.one 0 [] 9 (.fin [])))) 2 6 (.one 0 [] 5 (.one 0 [] 8 (.one 0 [] 9 (.fin [])))))) 2 6 (.two [] 2 2 (.two [] 2 5 (.one 0 [] 7 (.one 0 [] 8 (.one 0 [] 9 (.fin [])))) 2 7 (.one 0 [] 5 (.one 0 [] 8 (.one 0 [] 9 (.fin []))))) 2 7 (.one 2 [] 2 (.one 0 [] 5 (.one 0 [] 8 (.one 0 [] 9 (.fin [])))))) 2 7 (.two [] 2 2 (.two [] 2 5 (.one 0 [] 6 (.one 0 [] 8 (.one 0 [] 9 (.fin [])))) 2 6 (.one 0 [] 5 (.one 0 [] 8 (.one 0 [] 9 (.fin []))))) 2 6 (.one 2 [] 2 (.one 0 [] 5 (.one 0 [] 8 (.one 0 [] 9 (.fin []))))))) [] (.three [_,_,_,_] 2 2 _ (.three [] 2 5 _ (.two [] 2 6 _ (.one 0 [] 7 _ (.one 0 [] 8 _ (.one 0 [] 9 _ (.fin [])))) 2 7 _ (.one 0 [] 6 _ (.one 0 [] 8 _ (.one 0 [] 9 _ (.fin []))))) 2 6 _ (.two [] 2 5 _ (.one 0 [] 7 _ (.one 0 [] 8 _ (.one 0 [] 9 _ (.fin [])))) 2 7 _ (.one 0 [] 5 _ (.one 0 [] 8 _ (.one 0 [] 9 _ (.fin []))))) 2 7 _ (.two [] 2 5 _ (.one 0 [] 6 _ (.one 0 [] 8 _ (.one 0 [] 9 _ (.fin [])))) 2 6 _ (.one 0 [] 5 _ (.one 0 [] 8 _ (.one 0 [] 9 _ (.fin [])))))) 2 6 _ (.two [] 2 2 _ (.two [] 2 5 _ (.one 0 [] 7 _ (.one 0 [] 8 _ (.one 0 [] 9 _ (.fin [])))) 2 7 _ (.one 0 [] 5 _ (.one 0 [] 8 _ (.one 0 [] 9 _ (.fin []))))) 2 7 _ (.one 2 [] 2 _ (.one 0 [] 5 _ (.one 0 [] 8 _ (.one 0 [] 9 _ (.fin [])))))) 2 7 _ (.two [] 2 2 _ (.two [] 2 5 _ (.one 0 [] 6 _ (.one 0 [] 8 _ (.one 0 [] 9 _ (.fin [])))) 2 6 _ (.one 0 [] 5 _ (.one 0 [] 8 _ (.one 0 [] 9 _ (.fin []))))) 2 6 _ (.one 2 [] 2 _ (.one 0 [] 5 _ (.one 0 [] 8 _ (.one 0 [] 9 _ (.fin []))))))) ?_
  refine aH (Xb ?_)
  (repeat(go_big_quiet_step (fail)));refine aH ?_
  refine⟨?_,?_,?_⟩;all_goals(intro w2 hb2;go_wp2_with fail)
  all_goals first
   |(refine dZ (Bl.alloc hb2 _) ?_;replace HS:=U ((HS.o.next hb2).alloc);clear hb2)
   |(refine(nz.o w2).mono ?_;rintro e w3 ⟨rfl,hb3⟩;go_wp2;refine dZ (Bl.call hb2 hb3) ?_;replace HS:=U (HS.o.next (Bl.call hb2 hb3));clear hb2 hb3)
   |(refine(OX.o w2).mono ?_;rintro e w3 ⟨rfl,hb3⟩;go_wp2;refine dZ (Bl.call hb2 hb3) ?_;replace HS:=U (HS.o.next (Bl.call hb2 hb3));clear hb2 hb3)
  all_goals try(first|(refine Xb (aH ?_);refine⟨?_,?_,?_⟩)|(refine Sy (aH ?_);refine⟨?_,?_⟩)|refine uV (aH ?_))
  all_goals(intro w2 hb2;go_wp2_with fail)
  all_goals first
   |(refine dZ (Bl.alloc hb2 _) ?_;replace HS:=U ((HS.o.next hb2).alloc);clear hb2)
   |(refine(nz.o w2).mono ?_;rintro e w3 ⟨rfl,hb3⟩;go_wp2;refine dZ (Bl.call hb2 hb3) ?_;replace HS:=U (HS.o.next (Bl.call hb2 hb3));clear hb2 hb3)
   |(refine(OX.o w2).mono ?_;rintro e w3 ⟨rfl,hb3⟩;go_wp2;refine dZ (Bl.call hb2 hb3) ?_;replace HS:=U (HS.o.next (Bl.call hb2 hb3));clear hb2 hb3)
  all_goals try(first|(refine Xb (aH ?_);refine⟨?_,?_,?_⟩)|(refine Sy (aH ?_);refine⟨?_,?_⟩)|refine uV (aH ?_))
  all_goals(intro w2 hb2;go_wp2_with fail)
  all_goals first
   |(refine dZ (Bl.alloc hb2 _) ?_;replace HS:=U ((HS.o.next hb2).alloc);clear hb2)
   |(refine(nz.o w2).mono ?_;rintro e w3 ⟨rfl,hb3⟩;go_wp2;refine dZ (Bl.call hb2 hb3) ?_;replace HS:=U (HS.o.next (Bl.call hb2 hb3));clear hb2 hb3)
   |(refine(OX.o w2).mono ?_;rintro e w3 ⟨rfl,hb3⟩;go_wp2;refine dZ (Bl.call hb2 hb3) ?_;replace HS:=U (HS.o.next (Bl.call hb2 hb3));clear hb2 hb3)
  all_goals try(first|(refine Xb (aH ?_);refine⟨?_,?_,?_⟩)|(refine Sy (aH ?_);refine⟨?_,?_⟩)|refine uV (aH ?_))
  all_goals(intro w2 hb2;go_wp2_with fail)
  all_goals first
   |(refine dZ (Bl.alloc hb2 _) ?_;replace HS:=U ((HS.o.next hb2).alloc);clear hb2)
   |(refine(nz.o w2).mono ?_;rintro e w3 ⟨rfl,hb3⟩;go_wp2;refine dZ (Bl.call hb2 hb3) ?_;replace HS:=U (HS.o.next (Bl.call hb2 hb3));clear hb2 hb3)
   |(refine(OX.o w2).mono ?_;rintro e w3 ⟨rfl,hb3⟩;go_wp2;refine dZ (Bl.call hb2 hb3) ?_;replace HS:=U (HS.o.next (Bl.call hb2 hb3));clear hb2 hb3)
  all_goals
   refine am8 _ [.int .i64 0,.int .i64 0] [Ox,Ow] 41 rfl rfl rfl aF rfl aF (HS.o.hb _ aj) ?_;refine am8 _ [.int .i64 0,.int .i64 0] [uX,Jy] 41 rfl rfl rfl aF rfl aF ((HS.o.hb _ aj).far (by have:=HS.o.nd;simp at this;omega) _) ?_;refine LF ?_;have hne:∀x y:Nat,[x,y].Nodup→x≠y∧y≠x:=λx y h=>by simp at h;omega
   have hne:=hne _ _ HS.o.nd;simp only[iI];rw[YM.o];refine⟨_,_,?_,Dc _ _ _ rfl⟩;refine U ⟨?_,?_,?_,HS.o.ge _ aj,HS.o.ge _ aj⟩
   ·exact(HS.o.two aj aj ah9).1
   ·exact(HS.o.two aj aj ah9).2.1
   ·exact(HS.o.two aj aj ah9).2.2
 refine⟨?_⟩;intro _ w1 hj;rw[YM.o]at hj;obtain⟨B4,B5,⟨aX,aU,HB1,g4,g5⟩,us0,ha⟩:=hj;subst ha;clear YM Rj0;have aX:=U aX;have aU:=U aU;have HB1:=U HB1;have c4:=aX.o.cell 0;have Km:=aX.o.cell 1;have c5:=aU.o.cell 0;have c51:=aU.o.cell 1;simp only[aK,bB]at c4 Km c5 c51;have l4:=aX.o.lt;have l5:=aU.o.lt;clear cf ct;gi_wp2_with fail;have O5:Hid (∀q,(q=Bf∨q=Bt∨q=B4∨q=B5)→q<w1.heap.size):=U (λq h=>by have:=HB1.o.size;rcases h with rfl|rfl|rfl|rfl<;>omega);have Yh:=U (LZ.o.next HB1.o);have HT1:=U (FH.o.next HB1.o);have HJ1:Hid (J (λq=>q=B4∨q=B5) [] w1):=U (HJ.o _ _ _ _ w1 hj0.o (aA.of_below HB1.o) (λq h=>.inr ⟨by rcases h with rfl|rfl<;>assumption,by rcases h with rfl|rfl<;>assumption⟩));clear HS nz OX c4 Km c5 c51 l4 l5 LZ FH Fj q1 q2
 gi_loopw [6] (λs6 wr=>∃k:Nat,k≤N∧s6=.int .i64 (uX+k)∧Hid (J (λq=>q=B4∨q=B5) (L.take k) wr)∧Hid (∀q,(q=Bf∨q=Bt∨q=B4∨q=B5)→wr.heap[q]?=w1.heap[q]?)∧w1.heap.size≤wr.heap.size) (λs6 _=>(Jy+1-intOf s6).toNat)
 case atStart=>exact⟨0,ae,aj,by simpa using HJ1,U (λ_ _=>rfl),aV _⟩
 case round=>
  obtain⟨k,hk,rfl,gL,HR,hsz⟩:=hrel;have Y5:=aU.o.block (HR.o B5 aj) hsz;have Y4:=aX.o.block (HR.o B4 aj) hsz;have YF:=Yh.o.block (HR.o Bf aj) hsz;have c51:=Y5.cell 1;have c40:=Y4.cell 0;have Km:=Y4.cell 1;have cf:=YF.cell;simp only[aK,bB]at c51 c40 Km;have l5:=Y5.lt;have l4:=Y4.lt;have lf:=YF.lt;have ae9:=HNN.o;have i1:(0:Int)≤(k:Int):=ae;by_cases hlt:k<N
  ·have h2:uX+(k:Int)≤Jy:=ae;obtain⟨a,HA,ha0,ha1,Ht⟩:=kR.o k hlt ae ae;have HA:=U HA;have Ht:=U Ht;clear ae9;gi_wp2_with fail;refine(jH jJ (asP x1 x2 x3 x4 x5 x6 x7 x8 x9 dL (uX+k) _ ae ae ae ae ae)).mono ?_;rintro e w4 ⟨rfl,hb4⟩;rw[HA.o];have Z4:=U (Y4.next hb4);have ZF:=U (YF.next hb4);have aey:=U hb4;clear c51 c40 Km cf l5 l4 lf;have c40:=Z4.o.cell 0;have Km:=Z4.o.cell 1;have cf:=ZF.o.cell 0;simp only[aK,bB]at c40 Km cf;have l4:=Z4.o.lt;have lf:=ZF.o.lt;gi_wp2;refine Xp [19] [19] 1 [] [(1,[0,1,2,3,4,5,6,7,8,9,10,11,12,13,14,15,16,17,18],19)] [20] [] [(1,[_,_,_,_,_,_,_,_,_,_,_,_,_,_,_,_,_,_,_],19,_)] [_] ?_;refine aH (Xu ?_)
   (repeat(go_big_quiet_step (first|exact ah3 ae ae ae ae|fail)));refine aH ?_
   intro w6 hb6;have G8:=HJ.o _ (λq=>q=B4∨q=B5) _ _ w6 gL.o (aA.of_below (Bl.call aey.o hb6)) (λ_ h=>.inl h);obtain⟨fn,tmps,assign,body,hy,hR⟩:=HY.o _ (L.take k) (uX+k,((Ox-a) / x1,(Ow-a) / x1)) w6 G8 (tK.o k hlt) (J8 (i:=k+1) (by rw[Ht.o];simp));dsimp only[U5]at hy;gi_wp2_with fail;refine hR.mono ?_;rintro e W3 ⟨rfl,hJ3,hs3,hk3⟩;have aew:=Bl.call aey.o hb6;have tJ:Hid (∀q,(q=Bf∨q=Bt∨q=B4∨q=B5)→W3.heap[q]?=w1.heap[q]?):=U (λq hq=>((hk3 q (by rcases hq with h|h|h|h<;>simp[h])).trans (aew.block q (by have:=O5.o q hq;omega))).trans (HR.o q hq));have gK:=U hJ3;have hz3:w1.heap.size≤W3.heap.size:=by have:=aew.size;omega
   clear hR hy hJ3 hk3 hs3 G8;gi_wp2;refine bS _ rfl (SV ?_)
   (repeat(go_big_quiet_step (fail)));refine aH ?_
   intro nq;have xH:=U (HJ.o _ (λq=>q=B4∨q=B5) _ _ (W3.drewN nq) gK.o (aA.drewN _ _ nq) (λ_ h=>.inl h));have vQ:w1.heap.size≤(W3.drewN nq).heap.size:=hz3;have Tt:Hid (∀q,(q=Bf∨q=Bt∨q=B4∨q=B5)→(W3.drewN nq).heap[q]?=w1.heap[q]?):=tJ;generalize W3.drewN nq=W5 at *;clear gK tJ hz3;gi_wp2_with fail;exact⟨⟨k+1,ae,by rw[show uX+(k:Int)+1=uX+((k+1:Nat):Int)from ae],by rw[Ht.o];exact xH,Tt,vQ⟩,GG⟩
  ·have h2:¬uX+(k:Int)≤Jy:=ae;clear ae9;gi_wp2;go_end0;obtain rfl:k=N:=ae;exact⟨⟨_,rfl⟩,_,_,rfl,by have:=gL.o;rwa[Yv.o]at this⟩
end
end Go.Proofs.YtfmckbjeofiegaaGreat
