/- Part 10 of a proof. -/
import Derived.Test.YtfmckbjeofiegaaGreatA7
set_option maxRecDepth 100000
set_option maxHeartbeats 16000000
set_option linter.all false
open Go Go.RowKit Go.Proofs.Tryz
namespace Go.Proofs.YtfmckbjeofiegaaGreat
variable {b:Int}{l:List Sp}{base c i k:Nat}{v:Value}
section
attribute [local go_sem] Qv
def gX(gaps:List Sp)(ticks c:Int):Int:=if c=-1 then 1 else if c=gaps.length then 2 else min (gaps.getD c.toNat (0,0)).2 ticks
theorem aaq(B:Nat)(vs:List Value)(vg:Value)(gaps:List Sp)(ticks c:Int)(w:World)(hX:Bx B vs w)(h1:vs[22]?=some vg)(h2:vs[20]?=some (.int .i64 ticks))(hg:aC Shape.span w vg gaps)(hc:-1≤c∧c≤gaps.length):
  Calls prog 171 #[.pointer (some ⟨B,0,none⟩),c] w (Eg (gX gaps ticks c) w):=by
 obtain⟨a,cp,rfl,hc1,hc2⟩:=hg.shape;unfold maxLen at hc2;have HV:=U hg;clear hg;have CK:w.cell? ⟨B,22,none⟩=some (.slice a gaps.length cp):=(hX.cell 22).trans h1;have c20:w.cell? ⟨B,20,none⟩=some (.int .i64 ticks):=(hX.cell 20).trans h2;have hlt:=hX.lt;clear hX h1 h2;obtain⟨k1,k2⟩:=hc;by_cases e1:c=-1
 ·subst e1;have HF:Hid (gX gaps ticks (-1)=1):=U (aG rfl);go_in;go_wp2;go_ret;exact⟨vY,aB _ _⟩
 by_cases e2:c=gaps.length
 ·subst e2;have HF:Hid (gX gaps ticks gaps.length=2):=U (by rw[gX,aD e1,aG rfl]);have t0:((gaps.length:Int)==-1)=false:=by first|(simp;done)|(simp;omega)
  clear e1;go_in;go_wp2;go_ret;exact⟨vY,aB _ _⟩
 obtain⟨k,rfl⟩:∃k:Nat,c=(k:Int):=⟨c.toNat,ae⟩;have hk:k<gaps.length:=ae;have HF:Hid (gX gaps ticks (k:Int)=min gaps[k].2 ticks):=U (by rw[gX,aD e1,aD e2];simp[bN,hk]);have t0:((k:Int)==-1)=false:=by first|(simp;done)|(simp;omega)
 have t1:((k:Int)==(gaps.length:Int))=false:=bC;have i1:(0:Int)≤(k:Int):=ae;have i2:(k:Int)<gaps.length:=ae;obtain⟨b,o,rfl,d1,d2⟩:=HV.o.span_at hk;generalize gaps[k]=g at *;obtain⟨g1,g2⟩:=g;simp only at d1 d2 HF;clear e1 e2;go_in;go_wp2
 go_big_quiet (fail)
 go_wp2_with fail
 all_goals
  go_ret;refine⟨?_,Bl.drewN (aB _ _) _⟩;rw[HF.o]
  first
   |rfl
   |(rw[show min g2 ticks=g2 from ae];rfl)
   |(rw[show min g2 ticks=ticks from ae];rfl)
   |fail
def rG(gaps:List Sp)(ticks:Int)(k:Nat):Int:=((List.range k).map λ(j:Nat)=>gX gaps ticks ((j:Int)-1)).foldl (·+·) 0
theorem Rx(gaps:List Sp)(ticks:Int)(k:Nat):rG gaps ticks (k+1)=rG gaps ticks k+gX gaps ticks ((k:Int)-1):=by simp[rG,jq]
theorem Rw{gaps:List Sp}{ticks:Int}(h:∀g∈gaps,0≤g.2∧g.2≤1000000)(ht:0≤ticks):∀(k:Nat),k≤gaps.length+2→0≤rG gaps ticks k∧rG gaps ticks k≤1000000*k∧0≤gX gaps ticks ((k:Int)-1)∧gX gaps ticks ((k:Int)-1)≤1000000
 |k,hk=>by
  have hs:0≤gX gaps ticks ((k:Int)-1)∧gX gaps ticks ((k:Int)-1)≤1000000:=by
   unfold gX;split
   ·omega
   ·split
    ·omega
    ·by_cases hl:((k:Int)-1).toNat<gaps.length
     ·have:=h gaps[((k:Int)-1).toNat] (eu hl);rw[bN,di hl];simp only[sj];omega
     ·rw[bN,wT ae];simp only[Option.getD_none];omega
  cases k with
  |zero=>exact⟨by simp[rG],by simp[rG],hs.1,hs.2⟩
  |succ k=>
   have ih:=Rw h ht k ae;rw[Rx];refine⟨ae,ae,hs.1,hs.2⟩
theorem arN(B:Nat)(vs:List Value)(vg:Value)(gaps:List Sp)(ticks band:Int)(w:World)(hX:Bx B vs w)(h1:vs[22]?=some vg)(h2:vs[20]?=some (.int .i64 ticks))(h3:vs[14]?=some (.int .i64 band))(hg:aC Shape.span w vg gaps)
  (hb:∀g∈gaps,0≤g.2∧g.2≤1000000) (ht:0≤ticks) (hl:gaps.length≤1000) (hd:0≤band∧band≤8) :
  Calls prog 170 #[.pointer (some ⟨B,0,none⟩)] w (Eg (rG gaps ticks (gaps.length+2)*(2*band+1)) w):=by
 have HX:=U hX;have HG:=U hg;have HB:=U (λk=>Rw hb ht k);clear hX hb;obtain⟨a,cp,rfl,hc1,hc2⟩:=hg.shape;unfold maxLen at hc2;have H1:=U h1;have H2:=U h2;have H3:=U h3;clear hg h1 h2 h3;go_in;go_wp2
 go_loopw [3,4] (λs3 s4 wr=>∃k:Nat,k≤gaps.length+2∧s4=.int .i64 ((k:Int)-1)∧s3=.int .i64 (rG gaps ticks k)∧BL w wr) (λ_ s4 _=>(gaps.length+2-(intOf s4+1)).toNat)
 case atStart=>exact⟨0,ae,aY,by simp[rG],aB _ _⟩
 case round=>
  obtain⟨k,hk,rfl,rfl,hbw⟩:=hrel;have X:=HX.o.next hbw;have CK:wr.cell? ⟨B,22,none⟩=some (.slice a gaps.length cp):=(X.cell 22).trans H1.o;have c14:wr.cell? ⟨B,14,none⟩=some (.int .i64 band):=(X.cell 14).trans H3.o;have hlt:=X.lt;have hbd:=HB.o k hk;have HS:=U (Rx gaps ticks k);by_cases hlt2:k<gaps.length+2
  ·have t0:decide ((k:Int)-1≤gaps.length)=true:=bC;have ST:=U (aaq B vs _ gaps ticks ((k:Int)-1) wr X H1.o H2.o (HG.o.below hbw) ae);generalize gX gaps ticks ((k:Int)-1)=s at *;generalize rG gaps ticks k=m at *;clear X;go_wp2_with fail;refine ST.o.mono ?_;rintro e w1 ⟨rfl,hb1⟩;go_wp2;go_roundw
   case rel=>exact⟨k+1,ae,aY,by rw[HS.o],Bl.call hbw hb1⟩
   case measure=>exact aFF
  ·have hkk:k=gaps.length+2:=ae;have t0:decide ((k:Int)-1≤gaps.length)=false:=bC;have HF:Hid (rG gaps ticks (gaps.length+2)=rG gaps ticks k):=U (by rw[hkk]);have hb3:(rG gaps ticks k)≤2000000000:=ae;generalize rG gaps ticks k=m at *;have m1:0≤m*(2*band+1):=yR hbd.1 ae;have m2:m*(2*band+1)≤2000000000*17:=Hy hb3 ae ae ae;have w1:IntKind.i64.wrap (m*(2*band+1))=m*(2*band+1):=dE _ ae;clear X hkk HS;go_wp2;go_ret;exact⟨vY,hbw⟩
def Ej(gaps:List Sp)(ticks:Int)(k:Nat):List jr:=(List.range k).flatMap λ(c:Nat)=>(List.range (min (gaps.getD c (0,0)).2 ticks).toNat).map λ(a:Nat)=>((c:Int),(a:Int))
theorem ahG(gaps:List Sp)(ticks:Int)(k:Nat):Ej gaps ticks (k+1)=Ej gaps ticks k++(List.range (min (gaps.getD k (0,0)).2 ticks).toNat).map λ(a:Nat)=>((k:Int),(a:Int)):=by
 simp[Ej,jq]
theorem am5{gaps:List Sp}{ticks:Int}(hk:k<gaps.length):gX gaps ticks (((k+1:Nat):Int)-1)=min (gaps.getD k (0,0)).2 ticks:=by
 unfold gX;rw[aD ae,aD ae,show(((k+1:Nat):Int)-1).toNat=k from ae]
theorem att{gaps:List Sp}(h:∀g∈gaps,0≤g.2)(k:Nat):0≤(gaps.getD k (0,0)).2:=by
 by_cases hk:k<gaps.length
 ·rw[bN,di hk];exact h _ (eu hk)
 ·rw[bN,wT ae];exact oo _
theorem ak3{gaps:List Sp}{ticks:Int}(h:∀g∈gaps,0≤g.2)(ht:0≤ticks):∀ {k:Nat},k≤gaps.length→rG gaps ticks (k+1)=1+((Ej gaps ticks k).length:Int)
 |0,_=>by simp[rG,gX,Ej]
 |k+1,hk=>by
  rw[Rx,ak3 h ht (show k≤gaps.length by omega),am5 (by omega),ahG,dn,fC,H9];have:=att h k;omega
theorem awv{gaps:List Sp}{ticks:Int}(h:∀g∈gaps,0≤g.2)(ht:0≤ticks):rG gaps ticks (gaps.length+2)=((eY gaps ticks).length:Int):=by
 rw[Rx,ak3 h ht (aV _)];have e1:gX gaps ticks (((gaps.length+1:Nat):Int)-1)=2:=by unfold gX;rw[if_neg ae,if_pos ae]
 have e2:(eY gaps ticks).length=(Ej gaps ticks gaps.length).length+3:=by simp[eY,Ej]
 rw[e1,e2];omega
end
def zD(gaps:List Sp)(ticks:Int)(k:Nat):List jr:=(List.range k).flatMap λ(j:Nat)=>(List.range (gX gaps ticks ((j:Int)-1)).toNat).map λ(a:Nat)=>((j:Int)-1,(a:Int))
theorem RL(gaps:List Sp)(ticks:Int)(k:Nat):zD gaps ticks (k+1)=zD gaps ticks k++(List.range (gX gaps ticks ((k:Int)-1)).toNat).map λ(a:Nat)=>((k:Int)-1,(a:Int)):=by
 simp[zD,jq]
theorem alL{gaps:List Sp}{ticks:Int}:∀ {k:Nat},k≤gaps.length→zD gaps ticks (k+1)=(-1,0)::Ej gaps ticks k
 |0,_=>by rw[RL];simp[zD,Ej,gX]
 |k+1,h=>by
  rw[RL,alL (by omega),am5 (by omega),ahG];have e:(((k+1:Nat):Int)-1)=(k:Int):=ae;simp only[e,gB]
theorem acx(gaps:List Sp)(ticks:Int):zD gaps ticks (gaps.length+2)=eY gaps ticks:=by
 rw[RL,alL (aV _)];have e:(((gaps.length+1:Nat):Int)-1)=(gaps.length:Int):=ae
 have e2:gX gaps ticks (gaps.length:Int)=2:=by
  unfold gX;rw[aD ae,aG rfl]
 simp only[e,e2];unfold eY Ej;rfl
theorem alK{gaps:List Sp}{ticks:Int}(h:∀g∈gaps,0≤g.2∧g.2≤1000000)(ht:0≤ticks):∀(k:Nat),k≤gaps.length+2→((zD gaps ticks k).length:Int)=rG gaps ticks k
 |0,_=>rfl
 |k+1,hk=>by
  have hb:=Rw h ht k ae;rw[RL,Rx,dn,fC,H9,Int.natCast_add,alK h ht k ae];omega
theorem ax6{gaps:List Sp}{ticks:Int}{x:jr}(h:x∈zD gaps ticks k):-1≤x.1∧x.1<(k:Int)-1:=by
 obtain⟨j,hj,h⟩:=iB.1 h;obtain⟨a,_,rfl⟩:=dz.1 h;have:=fD.1 hj;simp only;omega
def nR(gaps:List Sp)(ticks b:Int)(k a i:Nat):List dx:=
 o9 (zD gaps ticks k++(List.range a).map λ(j:Nat)=>((k:Int)-1,(j:Int))) b++(List.range i).map λ(j:Nat)=>((k:Int)-1,(a:Int),(j:Int)-b)
theorem axv(gaps:List Sp)(ticks b:Int)(k a i:Nat):nR gaps ticks b k a (i+1)=nR gaps ticks b k a i++[((k:Int)-1,(a:Int),(i:Int)-b)]:=by
 simp[nR,jq]
theorem axu(gaps:List Sp)(ticks b:Int)(k a:Nat):nR gaps ticks b k a (2*b+1).toNat=nR gaps ticks b k (a+1) 0:=by
 simp[nR,o9,K4,jq]
theorem axw(gaps:List Sp)(ticks b:Int)(k:Nat):nR gaps ticks b k (gX gaps ticks ((k:Int)-1)).toNat 0=nR gaps ticks b (k+1) 0 0:=by
 simp[nR,RL]
theorem alp(gaps:List Sp)(ticks b:Int):nR gaps ticks b (gaps.length+2) 0 0=o9 (eY gaps ticks) b:=by
 simp[nR,acx]
theorem axz(gaps:List Sp)(ticks b:Int):nR gaps ticks b 0 0 0=[]:=by simp[nR,zD,o9]
theorem Jn{l:List jr}{x:dx}(h:x∈o9 l b):(x.1,x.2.1)∈l∧-b≤x.2.2∧x.2.2≤b:=by
 obtain⟨p,hp,h⟩:=iB.1 h;obtain⟨j,hj,rfl⟩:=dz.1 h;refine⟨hp,?_⟩;obtain⟨m,hm,rfl⟩:=dz.1 hj;have:=fD.1 hm;simp only;omega
theorem axy(gaps:List Sp)(ticks b:Int)(k a i:Nat):((k:Int)-1,(a:Int),(i:Int)-b)∉nR gaps ticks b k a i:=by
 intro h;rcases oH.1 h with h|h
 ·obtain⟨h,_⟩:=Jn h;rcases oH.1 h with h|h
  ·have:=ax6 h;simp only at this;omega
  ·obtain⟨j,hj,e⟩:=dz.1 h;have:=fD.1 hj;simp only[yX]at e;omega
 ·obtain⟨j,hj,e⟩:=dz.1 h;have:=fD.1 hj;simp only[yX]at e;omega
theorem axx{gaps:List Sp}{ticks:Int}(h:∀g∈gaps,0≤g.2∧g.2≤1000000)(hl:gaps.length≤1000)(ht:0≤ticks)(hb:b≤8){a:Nat}(hk:k≤gaps.length+2)(ha:a≤1000000)(hi:i≤17):(nR gaps ticks b k a i).length≤100000000000:=by
 have h1:=alK h ht k hk;have h2:=(Rw h ht k hk).2.1;unfold nR;rw[dn,WV,dn,fC,fC,H9,H9];have h3:(2*b+1).toNat≤17:=ae;have h4:(zD gaps ticks k).length+a≤1003000000:=ae;have:=Ux h4 h3;omega
section
attribute [local go_sem] Qv
def Dy(a:Int):List Sp→Bool
 |[]=>true
 |s::l=>decide (a+2≤s.1∧s.1≤s.2∧s.2≤100000)&&Dy s.2 l
def EH(l:List Sp):Bool:=Dy (-100002) l
theorem amC(a:Int)(h:k<l.length):Dy a (l.drop k)=(decide (a+2≤l[k].1∧l[k].1≤l[k].2∧l[k].2≤100000)&&Dy l[k].2 (l.drop (k+1))):=by
 rw[J4 h];rfl
def Ik(s:Sp):Bool:=decide (-100000≤s.1∧s.1≤s.2∧s.2≤100000)
def xy(l:List Sp):Bool:=decide (l.length≤64)&&EH l
def AR(next:Int)(e:lG):Bool:=decide (0≤e.1∧e.1<next)&&Ik e.2
def Dh(next:Int)(n:dK):Bool:=xy n.1&&decide (n.2.length≤64)&&n.2.all (AR next)
def sU(next:Int)(l:List dK):Bool:=decide (1≤l.length∧l.length≤4000)&&l.all (Dh next)
theorem awh(x y:Int)(w:World):Calls prog 284 #[.agg #[x,y]] w λe w'=>e=.returned (.bool (Ik (x,y)))∧BL w w':=by
 go_enter func284,ntmps284;go_wp2
 all_goals
  go_ret;exact⟨bu (by first|(simp[Ik];done)|(simp[Ik];omega)|(rw[DK];simp[Ik];omega)),Je⟩
theorem awi(v:Value)(l:List Sp)(w:World)(hv:aC Shape.span w v l):Calls prog 315 #[v] w λe w'=>e=.returned (.bool (EH l))∧BL w w':=by
 obtain⟨a,c,rfl,hc1,hc2⟩:=hv.shape;unfold maxLen at hc2;have HV:=U hv;clear hv;go_in;go_wp2
 go_loopw [3,8] (λs3 s8 wr=>∃(k:Nat) (la:Int),k≤l.length∧s8=.int .i64 k∧s3=.int .i64 la∧-100002≤la∧la≤100000∧Hid (EH l=Dy la (l.drop k))∧BL w wr) (λ_ s8 _=>l.length-(intOf s8).toNat)
 case atStart=>exact⟨0,-100002,ae,rfl,rfl,ae,ae,U rfl,aB _ _⟩
 case round=>
  obtain⟨k,la,hk,rfl,rfl,hl1,hl2,HS,hb⟩:=hrel;by_cases hlt:k<l.length
  ·obtain⟨b,o,rfl,c1,c2⟩:=(HV.o.below hb).span_at hlt;have HT:=U (amC la hlt);generalize l[k]=x at *;obtain⟨x1,x2⟩:=x;simp only at c1 c2 HT;have i1:(0:Int)≤(k:Int):=ae;have i2:(k:Int)<l.length:=ae;have w1:IntKind.i64.wrap (la+2)=la+2:=dE _ ae;by_cases hd:la+2≤x1∧x1≤x2∧x2≤100000
   ·have HF:Hid (EH l=Dy x2 (l.drop (k+1))):=U (by rw[HS.o,HT.o,En hd,DL]);clear HS HT;have d1:decide (x1<la+2)=false:=bC;have d2:decide (x2<x1)=false:=bC;have d3:decide (100000<x2)=false:=bC;go_wp2;go_roundw
    case rel=>exact⟨k+1,x2,ae,aY,rfl,ae,ae,HF,aaC⟩
    case measure=>exact aFF
   ·have HF:Hid (EH l=false):=U (by rw[HS.o,HT.o,Kr hd,Ta]);clear HS HT;by_cases h1:x1<la+2
    ·have d1:decide (x1<la+2)=true:=bC;go_wp2;go_ret;exact⟨bu HF.o.symm,aaC⟩
    ·have d1:decide (x1<la+2)=false:=bC;by_cases h2:x2<x1
     ·have d2:decide (x2<x1)=true:=bC;go_wp2;go_ret;exact⟨bu HF.o.symm,aaC⟩
     ·have d2:decide (x2<x1)=false:=bC;have d3:decide (100000<x2)=true:=bC;go_wp2;go_ret;exact⟨bu HF.o.symm,aaC⟩
  ·have hkk:k=l.length:=ae;have HF:Hid (EH l=true):=U (by rw[HS.o,hkk,Zn];rfl);go_wp2;go_ret;exact⟨bu HF.o.symm,hb⟩
theorem awj(v:Value)(l:List Sp)(w:World)(hv:aC Shape.span w v l):Calls prog 279 #[v] w λe w'=>e=.returned (.bool (xy l))∧BL w w':=by
 obtain⟨a,c,rfl,hc1,hc2⟩:=hv.shape;unfold maxLen at hc2;by_cases h:(l.length:Int)≤64
 ·have HF:Hid (xy l=EH l):=U (by rw[xy,En ae,DL]);have d1:decide ((l.length:Int)≤64)=true:=wu;go_in;go_wp2_with (go_at_call 315;refine(awi _ l _ hv).mono ?_;rintro e w1 ⟨rfl,hb1⟩)
  go_ret;exact⟨bu HF.o.symm,hb1⟩
 ·have HF:Hid (xy l=false):=U (by rw[xy,Kr ae,Ta]);have d1:decide ((l.length:Int)≤64)=false:=wu;go_in;go_wp2;go_ret;exact⟨bu HF.o.symm,aB _ _⟩
theorem aC.nod_at{w:World}{a:Option Addr}{n:Nat}{xs:List dK}(h:aC Shape.nod w (.slice a n c) xs)(hk:k<xs.length):
  ∃b o u v,a=some ⟨b,o,none⟩∧w.cell? ⟨b,o+k*2,none⟩=some u∧w.cell? ⟨b,o+k*2+1,none⟩=some v∧aC Shape.span w u xs[k].1∧aC Shape.trip w v xs[k].2:=by
 obtain⟨b,o,cs,e,_,h1,h2⟩:=h.at hk;obtain⟨u,v,rfl,h3,h4⟩:=zz.1 h1;have hn:Shape.nod.n=2:=rfl;rw[hn]at h2;exact⟨b,o,u,v,e,h2 0 ae,h2 1 ae,h3,h4⟩
def ZC(g:Nat)(lb:Array Value)(p:dK→Bool)(w:World):Prop:=
 ∀W x u v,BL w W→aC Shape.span W u x.1→aC Shape.trip W v x.2→Calls prog g (#[.agg #[u,v]]++lb) W λe w'=>e=.returned (.bool (p x))∧BL W w'
theorem avx(v:Value)(xs:List dK)(g:Nat)(lb:Array Value)(p:dK→Bool)(w:World)(hv:aC Shape.nod w v xs)(he:Enters prog g)(hg:ZC g lb p w):
  Calls prog 316 #[v,.func (.func g) #[] lb] w λe w'=>e=.returned (.int .i64 (fw p xs))∧BL w w':=by
 obtain⟨a,c,rfl,hc1,hc2⟩:=hv.shape;unfold maxLen at hc2;have HG:=U hg;clear hg;have he':∀(args:Array Value) (w:World),(callFunc g args).run prog w=.ok (.enter g args) w:=he;clear he;go_enter func316,ntmps316;go_wp2
 go_loopw [8] (λi wr=>∃k:Nat,k≤xs.length∧i=.int .i64 k∧BL w wr∧Hid (∀j,(hj:j<xs.length)→j<k→p xs[j]=false)) (λi _=>xs.length-(intOf i).toNat)
 case atStart=>exact⟨0,ae,rfl,aB _ _,λj _ hj=>ae⟩
 case round=>
  obtain⟨k,hk,rfl,hb,HN⟩:=hrel;by_cases hlt:k<xs.length
  ·obtain⟨b,o,u1,u2,rfl,c1,c2,L1,L2⟩:=(hv.below hb).nod_at hlt;have CALL:=U (HG.o wr xs[k] u1 u2 hb L1 L2);clear L1 L2;go_wp2_with fail;refine CALL.o.mono ?_;rintro e w1 ⟨rfl,hb1⟩;clear CALL;cases hp:p xs[k]
   ·have HP:=U hp;clear hp;go_wp2;go_roundw
    case rel=>
     refine⟨k+1,ae,aY,Bl.call hb hb1,λj h1 hj=>?_⟩;by_cases e:j=k
     ·exact aFG
     ·exact HN.o j h1 ae
    case measure=>exact aFF
   ·have HF:Hid (fw p xs=k):=IY hlt hp HN.o;clear hp;go_wp2;go_ret;exact⟨gW HF.o.symm,Bl.call hb hb1⟩
  ·have HF:Hid (fw p xs=-1):=IZ (λj h1=>HN.o j h1 ae);go_wp2;go_ret;exact⟨gW HF.o.symm,hb⟩
theorem ar3(v:Value)(xs:List dK)(g:Nat)(lb:Array Value)(p:dK→Bool)(w:World)(hv:aC Shape.nod w v xs)(he:Enters prog g)(hg:ZC g lb p w):
  Calls prog 285 #[v,.func (.func g) #[] lb] w λe w'=>e=.returned (.bool (xs.any p))∧BL w w':=by
 have HF:Hid (decide (0≤fw p xs)=xs.any p):=U (KP p xs);go_enter func285,ntmps285;go_wp2_with (go_at_call 316;refine(avx v xs g lb p _ hv he hg).mono ?_;rintro e w' ⟨rfl,hb⟩)
 go_ret;exact⟨bu N7,qI⟩
theorem aqP(B:Nat)(next:Int)(w:World)(hX:Bx B [next] w):Ef 283 #[.pointer (some ⟨B,0,none⟩)] (λe=>!AR next e) w:=by
 rintro W ⟨t,x,y⟩ hb;have q0:=(hX.next hb).cell 0;have ql:=(hX.next hb).lt;simp only[aK]at q0;clear hX;by_cases h1:t<0
 ·have HF:Hid ((!AR next (t,x,y))=true):=U (by simp[AR];omega);have d1:decide (t<0)=true:=qO;go_in;go_wp2;go_ret;exact⟨bu HF.o.symm,Bl.alloc (aB _ _) _⟩
 have d1:decide (t<0)=false:=qO;by_cases h2:next≤t
 ·have HF:Hid ((!AR next (t,x,y))=true):=U (by simp[AR];omega);have d2:decide (next≤t)=true:=xw;go_in;go_wp2;go_ret;exact⟨bu HF.o.symm,Bl.alloc (aB _ _) _⟩
 have d2:decide (next≤t)=false:=xw;have HF:Hid ((!AR next (t,x,y))=!Ik (x,y)):=U (by rw[AR,En ic,DL]);go_in;go_wp2_with (go_at_call 284;refine(awh x y _).mono ?_;rintro e w1 ⟨rfl,hb1⟩)
 go_ret;exact⟨bu HF.o.symm,Bl.call (Bl.alloc (aB _ _) _) hb1⟩
theorem Rk(v:Value)(l:List Sp)(t:Bool)(w:World)(hv:aC Shape.span w v l)(h:Hid (xy l=t)):Calls prog 279 #[v] w λe w'=>e=.returned (.bool t)∧BL w w':=
 (awj v l w hv).mono λ_ _ ⟨h1,h2⟩=>⟨NY,h2⟩
theorem aqQ(B C:Nat)(next:Int)(w:World)(hX:Bx B [next] w)(hC:Bx C [.func (.func 283) #[] #[.pointer (some ⟨B,0,none⟩)]] w):ZC 286 #[.pointer (some ⟨C,0,none⟩)] (λn=>!Dh next n) w:=by
 rintro W ⟨al,nx⟩ u v hb Lu Lv;have HX:=U (hX.next hb);have hC0:=U (hC.next hb);have q0:=(hC.next hb).cell 0;have ql:=(hC.next hb).lt;simp only[aK]at q0;clear hX hC;dsimp only at Lu Lv;obtain⟨a1,c1,rfl,_,_⟩:=Lu.shape;obtain⟨a2,c2,rfl,hk1,hk2⟩:=Lv.shape;unfold maxLen at hk2;obtain⟨t,HT⟩:∃t,Hid (xy al=t):=⟨_,rfl⟩;have HU:=U Lu;have HV:=U Lv;clear Lu Lv;cases t
 ·have HF:Hid ((!Dh next (al,nx))=true):=U (by rw[Dh,HT.o];rfl);go_in;go_wp2_with (go_at_call 279;refine(Rk _ al false _ (HU.o.below (Bl.alloc (aB _ _) _)) HT).mono ?_;rintro e w1 ⟨rfl,hb1⟩)
  go_ret;exact⟨bu HF.o.symm,Bl.call (Bl.alloc (aB _ _) _) hb1⟩
 by_cases h1:(64:Int)<nx.length
 ·have HF:Hid ((!Dh next (al,nx))=true):=U (by rw[Dh,Kr (p:=nx.length≤64) ae];simp);have d1:decide ((64:Int)<nx.length)=true:=qO;go_in;go_wp2_with (go_at_call 279;refine(Rk _ al true _ (HU.o.below (Bl.alloc (aB _ _) _)) HT).mono ?_;rintro e w1 ⟨rfl,hb1⟩;have XB:=(Bx.new (W:=W) (t:=207) (vs:=[.slice a1 al.length c1,.slice a2 nx.length c2]) rfl).next hb1;have r0:=XB.cell 0;have r1:=XB.cell 1;have rl:=XB.lt;clear XB;simp only[aK,bB]at r0 r1;have RO:=(hC0.o.next (Bl.call (Bl.alloc (aB _ _) _) hb1)).cell 0;have ql':=(hC0.o.next (Bl.call (Bl.alloc (aB _ _) _) hb1)).lt;simp only[aK]at RO)
  go_ret;exact⟨bu HF.o.symm,Bl.call (Bl.alloc (aB _ _) _) hb1⟩
 have d1:decide ((64:Int)<nx.length)=false:=qO;have HF:Hid ((!Dh next (al,nx))=nx.any λe=>!AR next e):=U (by rw[Dh,HT.o,En (p:=nx.length≤64) ae,DL,DL,List.not_all_eq_any_not]);go_in;go_wp2_with (first|(go_at_call 279;refine(Rk _ al true _ (HU.o.below (Bl.alloc (aB _ _) _)) HT).mono ?_;rintro e w1 ⟨rfl,hb1⟩;have XB:=(Bx.new (W:=W) (t:=207) (vs:=[.slice a1 al.length c1,.slice a2 nx.length c2]) rfl).next hb1;have r0:=XB.cell 0;have r1:=XB.cell 1;have rl:=XB.lt;clear XB;simp only[aK,bB]at r0 r1;have RO:=(hC0.o.next (Bl.call (Bl.alloc (aB _ _) _) hb1)).cell 0;have ql':=(hC0.o.next (Bl.call (Bl.alloc (aB _ _) _) hb1)).lt;simp only[aK]at RO)|(go_at_call 287;refine(ar1 _ nx _ _ (λe=>!AR next e) _ (HV.o.below (Bl.call (Bl.alloc (aB _ _) _) hb1)) (fo func283 aF rfl) (aqP B next _ (HX.o.next (Bl.call (Bl.alloc (aB _ _) _) hb1)))).mono ?_;rintro e w2 ⟨rfl,hb2⟩))
 go_ret;exact⟨bu HF.o.symm,Bl.call (Bl.call (Bl.alloc (aB _ _) _) hb1) hb2⟩
theorem aAm(P:Program)(w:World)(a:Addr)(m:Mode)(fn:Fn)(first captured:Array Value):(store a (.func fn first captured) m).run P w=stored P w a (.func fn first captured) m:=run_store P w a _ m rfl
attribute [local go_sem] aAm
theorem awk(v:Value)(l:List dK)(next:Int)(w:World)(hv:aC Shape.nod w v l):Calls prog 240 #[v,next] w λe w'=>e=.returned (.bool (sU next l))∧BL w w':=by
 obtain⟨a,c,rfl,hc1,hc2⟩:=hv.shape;unfold maxLen at hc2;have HV:=U hv;clear hv;by_cases h1:¬(1:Int)≤l.length
 ·have HF:Hid (sU next l=false):=U aza;have d1:decide ((1:Int)≤l.length)=false:=qO;go_in;go_wp2;go_ret;exact⟨bu HF.o.symm,ayC⟩
 have d1:decide ((1:Int)≤l.length)=true:=bC;by_cases h2:¬(l.length:Int)≤4000
 ·have HF:Hid (sU next l=false):=U aza;have d2:decide ((l.length:Int)≤4000)=false:=xw;go_in;go_wp2;go_ret;exact⟨bu HF.o.symm,ayC⟩
 have d2:decide ((l.length:Int)≤4000)=true:=bC;have HF:Hid (sU next l=!l.any λn=>!Dh next n):=U (by rw[sU,En ae,DL,List.not_any_eq_all_not];simp);clear h1 h2;go_in;have XB:=(Bx.new (W:=w) (t:=3) (vs:=[.int .i64 next]) rfl).alloc (.cells #[.func (.func 283) #[] #[.pointer (some ⟨w.heap.size,0,none⟩)]] 349);have XC:=(Bx.new (W:=w.alloc (.cells #[next] 3)) (B:=w.heap.size+1) (t:=349) (vs:=[.func (.func 283) #[] #[.pointer (some ⟨w.heap.size,0,none⟩)]]) aj);have eP:BL w ((w.alloc (.cells #[next] 3)).alloc (.cells #[.func (.func 283) #[] #[.pointer (some ⟨w.heap.size,0,none⟩)]] 349)):=Bl.alloc (Bl.alloc (aB _ _) _) _;have PN:=U (ar3 _ l _ _ _ _ (HV.o.below eP) (fo func286 aF rfl) (aqQ w.heap.size (w.heap.size+1) next _ XB XC));clear XB XC;go_wp2_with (go_at_call 285;go_loud (refine PN.o.mono ?_;rintro e w2 ⟨rfl,hb2⟩))
 go_ret;exact⟨bu HF.o.symm,Bl.call eP hb2⟩
theorem an6(v:Value)(l:List Sp)(d:Int)(w:World)(hv:aC Shape.span w v l)(hn:l.length≤1000000000000)(hb:∀s∈l,-1000000≤s.1∧s.2≤1000000∧s.1≤s.2)(hd:-1000000≤d∧d≤1000000):
  Calls prog 119 #[v,d] w λe w'=>∃u,e=.returned u∧bG w.heap.size w' u (gF l d)∧BL w w':=by
 obtain⟨a,cp,rfl,hc1,hc2⟩:=hv.shape;unfold maxLen at hc2;have HV:=U hv;clear hv;have HB:=U hb;clear hb;obtain⟨i0,hi,hz0,hz1,hz2⟩:=dY zu;go_in;go_wp2
 go_loopw [5,10] (λs5 s10 wr=>∃k:Nat,k≤l.length∧s10=.int .i64 k∧Hid (bG w.heap.size wr s5 (gF (l.take k) d))∧BL w wr) (λ_ s10 _=>l.length-(intOf s10).toNat)
 case atStart=>exact⟨0,ae,rfl,U (yC (by simp[gF])),aB _ _⟩
 case round=>
  obtain⟨k,hk,rfl,HO,hb⟩:=hrel;obtain⟨a5,c5,rfl⟩:=bv HO.o;by_cases hlt:k<l.length
  ·have HS:=HB.o l[k] (eu hlt);have HT:Hid (gF (l.take (k+1)) d=gF (l.take k) d++[(l[k].1+d,l[k].2+d)]):=U (by rw[gF,WX _ hlt];rfl);obtain⟨b,o,rfl,c1,c2⟩:=(HV.o.below hb).span_at hlt;generalize l[k]=x at *;obtain⟨x1,x2⟩:=x;simp only at c1 c2 HS HT;have hlen:(gF (l.take k) d).length≤1000000000000:=by simp[gF];omega
   generalize gF (l.take k) d=M at *;have i1:(0:Int)≤(k:Int):=ae;have i2:(k:Int)<l.length:=ae;have w1:IntKind.i64.wrap (x1+d)=x1+d:=dE _ ae;have w2:IntKind.i64.wrap (x2+d)=x2+d:=dE _ ae;have hsz:=hb.size;have bL:=U (fq HO.o (Bl.alloc (aB wr.heap.size wr) (.cells #[x1,x2] 41)));have hb2:=Bl.alloc hb (.cells #[x1,x2] 41);go_wp2_with (at_builtin;go_loud (refine iE (hnews:=UX aj _ _) (bL.o.alloc _) ⟨wr.heap.size+1,0,none⟩ 1 1 [.int .i64 (x1+d),.int .i64 (x2+d)] hi hz0 hz1 hz2 ?_);intro v' w4 hown' hgrow bY)
   have fu:=U (wW hown' rfl);have hb4:=MK bL.o hgrow hb2 (aV _);clear hown' hgrow bY;go_roundw
   case rel=>exact⟨k+1,ae,aY,RX,hb4⟩
   case measure=>exact aFF
  ·have hkk:k=l.length:=ae;go_wp2;go_ret;refine⟨_,rfl,?_,hb⟩;have:=HO.o;rw[hkk,jc]at this ⊢;exact this
def jA:List Sp→Int→Int×Bool
 |[],_=>(0,false)
 |s::l,n=>if n≤s.2 then(max n s.1,true)else jA l n
theorem axn{n:Int}:∀ {k:Nat},k≤l.length→(∀j,(h:j<l.length)→j<k→l[j].2<n)→jA l n=jA (l.drop k) n:=by
 intro k
 induction k with
 |zero=>intros;simp
 |succ k ih=>
  intro hk h;rw[ih ae (λj hj hjk=>h j hj ae)];have hlt:k<l.length:=ae;rw[J4 hlt,jA,aD (by have:=h k hlt ae;omega)]
theorem aBU(v:Value)(l:List Sp)(n:Int)(w:World)(hv:aC Shape.span w v l):Calls prog 203 #[v,n] w λe w'=>e=.returned (.tuple #[.int .i64 (jA l n).1,.bool (jA l n).2])∧BL w w':=by
 obtain⟨a,cp,rfl,hc1,hc2⟩:=hv.shape;unfold maxLen at hc2;have HV:=U hv;clear hv;have HD:=U (λk (h1:k≤l.length)=>axn (l:=l) (n:=n) h1);go_in;go_wp2
 go_loopw [10] (λs10 wr=>∃k:Nat,k≤l.length∧s10=.int .i64 k∧Hid (∀j,(h:j<l.length)→j<k→l[j].2<n)∧BL w wr) (λs10 _=>l.length-(intOf s10).toNat)
 case atStart=>exact⟨0,ae,rfl,U (λj h hj=>ae),aB _ _⟩
 case round=>
  obtain⟨k,hk,rfl,HA,hb⟩:=hrel;by_cases hlt:k<l.length
  ·obtain⟨b,o,rfl,c1,c2⟩:=(HV.o.below hb).span_at hlt;have HE:=U (HD.o k hk HA.o);have HC:=U (J4 hlt)
   have HN:Hid (l[k].2<n→∀j,(h:j<l.length)→j<k+1→l[j].2<n):=U (λh0 j h hj=>by
    by_cases e:j=k
    ·subst e;exact h0
    ·exact HA.o j h ae)
   generalize l[k]=x at *;obtain⟨x1,x2⟩:=x;simp only at c1 c2 HN;have i1:(0:Int)≤(k:Int):=ae;have i2:(k:Int)<l.length:=ae;have hb2:=U (Bl.alloc hb (.cells #[x1,x2] 41));by_cases hle:n≤x2
   ·have t0:decide (n≤x2)=true:=zJ;have HF:Hid (jA l n=(max n x1,true)):=U (by rw[HE.o,HC.o,jA,aG hle]);clear hle;go_wp2_with fail
    all_goals
     go_ret2;refine⟨?_,hb2.o⟩;rw[HF.o]
     first
      |rfl
      |(rw[show max n x1=n from ae];rfl)
      |(rw[show max n x1=x1 from ae];rfl)
      |fail
   ·have t0:decide (n≤x2)=false:=zJ;have qB:=U (HN.o ae);clear hle;go_wp2;go_roundw
    case rel=>exact⟨k+1,ae,aY,qB,hb2.o⟩
    case measure=>exact aFF
  ·have HF:Hid (jA l n=(0,false)):=U (by rw[HD.o l.length (aV _) (λj h _=>HA.o j h ae),Zn];rfl);go_wp2;go_ret2;exact⟨vY,hb⟩
def upTo(d:Int):Nat→Nat→Nat
 |0,n=>n
 |f+1,n=>if(n:Int)*n<d then upTo d f (n+1)else n
def WR(d:Int):Nat:=upTo d 3000 0
theorem az7{d:Int}{n:Nat}(hn:n<3000)(h1:∀k:Nat,k<n→(k:Int)*k<d)(h2:¬(n:Int)*n<d):WR d=n:=by
 have key:∀(f m:Nat),m+f=3000→m≤n→upTo d f m=n:=by
  intro f
  induction f with
  |zero=>intro m h1 h2;omega
  |succ f ih=>
   intro m hm hle;unfold upTo;by_cases e:m=n
   ·subst e;rw[aD h2]
   ·rw[aG (h1 m ae)];exact ih (m+1) ae ae
 exact key 3000 0 rfl ae
def CQ(ax ay bx by':Int):Int:=(WR ((ax-bx)*(ax-bx)+(ay-by')*(ay-by')):Nat)
theorem amX{x:Int}(h1:-2000≤x)(h2:x≤2000):0≤x*x∧x*x≤4000000:=by
 constructor
 ·rcases Int.le_total 0 x with h|h
  ·exact yR h h
  ·have:=yR (show(0:Int)≤-x from ae) (show(0:Int)≤-x from ae)
   rwa[Int.neg_mul_neg]at this
 ·rcases Int.le_total 0 x with h|h
  ·have:=Hy h2 h2 h ae;omega
  ·have:=Hy (show -x≤2000 from ae) (show -x≤2000 from ae) ae ae;rw[Int.neg_mul_neg]at this;omega
theorem azD(i1 ax ay i2 bx by':Int)(o1 o2:Option Addr)(n1 c1 n2 c2:Nat)(w:World)(a1:0≤ax)(a2:ax≤2000)(a3:0≤ay)(a4:ay≤2000)(b1:0≤bx)(b2:bx≤2000)(b3:0≤by')(b4:by'≤2000):
  Calls prog 263 #[.agg #[i1,ax,ay,.slice o1 n1 c1],.agg #[i2,bx,by',.slice o2 n2 c2]] w λe w'=>e=.returned (.int .i64 (CQ ax ay bx by'))∧BL w w':=by
 obtain⟨x,hx⟩:∃x,x=ax-bx:=⟨_,rfl⟩;obtain⟨y,hy⟩:∃y,y=ay-by':=⟨_,rfl⟩
 have sx:=amX (x:=x) ae ae;have sy:=amX (x:=y) ae ae;have HD:Hid (CQ ax ay bx by'=(WR (x*x+y*y):Nat)):=U (by rw[CQ,←hx,←hy]);have e1:ax-bx=x:=hx.symm;have e2:ay-by'=y:=hy.symm
 have w1:IntKind.i64.wrap x=x:=dE _ ae;have w2:IntKind.i64.wrap y=y:=dE _ ae;have hx1:=U hx;have hy1:=U hy;clear hx hy;go_in;go_wp2
 go_big_quiet (fail)
 obtain⟨sx1,sx2⟩:=sx;obtain⟨sy1,sy2⟩:=sy;generalize Ri:x*x=xx at *;generalize hyy:y*y=yy at *;have HX:=U Ri;have HY:=U hyy;clear Ri hyy;go_wp2
 go_loopw [7] (λs wr=>∃k:Nat,k≤2900∧s=.int .i64 k∧Hid (∀j:Nat,j<k→(j:Int)*j<xx+yy)∧BL w wr) (λs _=>2900-(intOf s).toNat)
 case atStart=>exact⟨0,ae,rfl,U (λj h=>ae),Ku⟩
 case round=>
  obtain⟨k,hk,rfl,HA,hb⟩:=hrel;have hkk:(k:Int)*k≤2900*2900:=Hy ae ae ae ae;have hk0:(0:Int)≤(k:Int)*k:=yR ae ae;have m1:IntKind.i64.wrap ((k:Int)*k)=(k:Int)*k:=dE _ ae;have m2:IntKind.i64.wrap xx=xx:=dE _ ae;have m3:IntKind.i64.wrap yy=yy:=dE _ ae;have m4:x*x=xx:=HX.o;have m5:y*y=yy:=HY.o;by_cases hlt:(k:Int)*k<xx+yy
  ·have hk2:k+1≤2900:=by
    by_cases h:k+1≤2900
    ·exact h
    ·have e:k=2900:=ae;subst e;simp at hlt;omega
   have t1:decide ((k:Int)*k<xx+yy)=true:=by simpa using hlt
   have HA2:Hid (∀j:Nat,j<k+1→(j:Int)*j<xx+yy):=U (λj hj=>by
    by_cases e:j=k
    ·subst e;exact hlt
    ·exact HA.o j ae)
   clear hlt;go_wp2;go_roundw
   case rel=>exact⟨k+1,hk2,aY,HA2,hb⟩
   case measure=>exact aFF
  ·have t1:decide ((k:Int)*k<xx+yy)=false:=by simpa using hlt
   have HF:Hid (CQ ax ay bx by'=(k:Int)):=U (by rw[HD.o,az7 ae HA.o hlt]);clear hlt;go_wp2;go_ret;exact⟨vY,hb⟩
theorem amY{l m n:Int}{w:World}{d:Nat}{os:Array Obj}(l1:0≤l)(l2:l≤12000)(m1:0≤m)(m2:m≤4000)(hn:Hid (sP l m=n)):
  Calls prog 264 #[l,m] (Sort.grow (redrawn w d) os) λe w''=>e=.returned (.int .i64 n)∧∃p:Regrown,w''=Sort.grow (redrawn w p.d) p.os:=by
 rw[←hn.o];exact uZ (az8 l m _ l1 l2 m1 m2)
theorem az9(l m1 m2:Int)(w:World)(l1:0≤l)(l2:l≤12000)(h1:0≤m1)(h2:m1≤m2)(h3:m2≤4000):Calls prog 205 #[l,.agg #[m1,m2]] w (Kc (eZ l (m1,m2)) w):=by
 obtain⟨n1,N1⟩:∃n,Hid (sP l m1=n):=⟨_,U rfl⟩;obtain⟨n2,N2⟩:∃n,Hid (sP l m2=n):=⟨_,U rfl⟩;have HE:Hid (eZ l (m1,m2)=(n1,n2)):=U (by rw[eZ];simp only[N1.o,N2.o]);rw[HE.o];go_in;go_wp2;refine iQ [9] [9] 1 [] [(0,[0,1,2,3,4,5,6,7,8],9)] [] [] [(0,[_,_,_,_,_,_,_,_,_],9,_)] [] ?_;refine aH (ku ?_)
 (repeat(go_big_quiet_step (first|exact amY l1 l2 ae ae N1|exact amY l1 l2 ae ae N2|fail)));refine aH ?_
 intro w1 hb1;have X1:Bx (w.heap.size+1) [.int .i64 0,.int .i64 0] w1:=uu;have c5:=X1.cell;have z1:=X1.free;have q1:=X1.lt;clear X1;have B1:BL w w1:=Ku;go_wp2;refine bS _ rfl (jl ?_);go_wp2;refine kE (v:=.agg #[n1,n2]) (by simp[results,results205,go_sem,c5,J9]) rfl ⟨rfl,?_⟩;clear hb1;exact ul
def Kb(e0:TypeId)(size:Nat)(n:Nat)(cells:List Value)(w:World)(e:Ending)(w':World):Prop:=∃v,e=.returned v∧w'.ownsRow w.heap.size e0 size v n cells∧BL w w'
theorem avR:(prog.info? 41).map (λi=>(i.zero,i.size,i.bytes))=some (some (.agg #[.int .i64 0,.int .i64 0]),2,16):=aF
theorem aae(v:Value)(xs:List Sp)(w:World)(hv:aC Shape.span w v xs)(hl:xs.length≤1000000000):
  Calls prog 214 #[v] w (Kb 41 2 xs.length (xs.flatMap (λp:Sp=>[Value.int .i64 p.1,Value.int .i64 p.2])) w):=by
 obtain⟨a,c,rfl,hc1,hc2⟩:=hv.shape;obtain⟨i0,hi,hz0,hz1,hz2⟩:=dY avR;rcases a with _|ad
 ·have h0:xs=[]:=by
   rcases pJ xs.length with h|h
   ·exact jo h
   ·obtain⟨b,o,cs,e,_⟩:=hv.at h;cases e
  subst h0;have vM:=λ(w:World) (a:Option Addr) (n c n' c':Nat)=>vH (P:=prog) w 54 41 a n c n' c' underlying54;go_in;go_wp2;go_ret;exact⟨_,rfl,by simpa using nJ w w.heap.size 41 2,aB _ _⟩
 ·have hnews:Hid (∀W,BL w W→∀j u,(xs.flatMap (λp:Sp=>[Value.int .i64 p.1,Value.int .i64 p.2]))[j]?=some u→W.cell? (ad.add j)=some u):=U (by
   intro W hW j u hj;rcases pJ xs.length with h|h
   ·exact aFx
   ·obtain⟨b,o,cs,e,_⟩:=hv.at h;cases e
    exact I1 mE aW (hv.below hW) j u hj)
  have hnl:(xs.flatMap (λp:Sp=>[Value.int .i64 p.1,Value.int .i64 p.2])).length=xs.length*2:=by
   clear hv hnews hc1 hl
   induction xs with
   |nil=>rfl
   |cons x xs ih=>simp only[jN,dn,dS,ih,fU];omega
  have hone:∀u∈xs.flatMap (λp:Sp=>[Value.int .i64 p.1,Value.int .i64 p.2]),u.oneCell'=true:=by
   intro u hu;obtain⟨x,_,hx⟩:=iB.1 hu;simp at hx;rcases hx with rfl|rfl<;>rfl
  have HL:=U hnl;have HO:=U hone;generalize xs.flatMap (λp:Sp=>[Value.int .i64 p.1,Value.int .i64 p.2])=news at *;clear hnl hone hv;have vM:=λ(w:World) (a:Option Addr) (n c n' c':Nat)=>vH (P:=prog) w 54 41 a n c n' c' underlying54;go_in;go_wp2_with (at_builtin;refine mH _ rfl _ _ 54 rfl w.heap.size 41 i0 (.agg #[.int .i64 0,.int .i64 0]) 2 16 underlying54 hi hz0 hz1 hz2 rfl aW _ _ _ rfl (F7 w #[] 0 (aV _) qN rfl) ad xs.length c news rfl HL.o (hnews.o _ (Bl.alloc (aB _ _) _)) HO.o wh ae aj ?_;intro v' w4 hown' hgrow _)
  have hb4:=gJ (Bl.alloc (aB w.heap.size w) _) hgrow aj (λj hj=>Gf);go_ret;exact⟨_,rfl,Og,hb4⟩
theorem akt:(prog.info? 3).map (λi=>(i.zero,i.size,i.bytes))=some (some (.int .i64 0),1,8):=aF
theorem ahw(v:Value)(xs:List Int)(w:World)(hv:aC Shape.int w v xs)(hl:xs.length≤1000000000):
  Calls prog 202 #[v] w (Kb 3 1 xs.length (xs.flatMap (λa:Int=>[Value.int .i64 a])) w):=by
 obtain⟨a,c,rfl,hc1,hc2⟩:=hv.shape;obtain⟨i0,hi,hz0,hz1,hz2⟩:=dY akt;rcases a with _|ad
 ·have h0:xs=[]:=by
   rcases pJ xs.length with h|h
   ·exact jo h
   ·obtain⟨b,o,cs,e,_⟩:=hv.at h;cases e
  subst h0;have vM:=λ(w:World) (a:Option Addr) (n c n' c':Nat)=>vH (P:=prog) w 53 3 a n c n' c' underlying53;go_in;go_wp2;go_ret;exact⟨_,rfl,by simpa using nJ w w.heap.size 3 1,aB _ _⟩
 ·have hnews:Hid (∀W,BL w W→∀j u,(xs.flatMap (λa:Int=>[Value.int .i64 a]))[j]?=some u→W.cell? (ad.add j)=some u):=U (by
   intro W hW j u hj;rcases pJ xs.length with h|h
   ·exact aFx
   ·obtain⟨b,o,cs,e,_⟩:=hv.at h;cases e
    exact I1 yD aW (hv.below hW) j u hj)
  have hnl:(xs.flatMap (λa:Int=>[Value.int .i64 a])).length=xs.length*1:=by
   clear hv hnews hc1 hl
   induction xs with
   |nil=>rfl
   |cons x xs ih=>simp only[jN,dn,dS,ih,fU];omega
  have hone:∀u∈xs.flatMap (λa:Int=>[Value.int .i64 a]),u.oneCell'=true:=by
   intro u hu;obtain⟨x,_,hx⟩:=iB.1 hu;simp at hx;rcases hx with rfl<;>rfl
  have HL:=U hnl;have HO:=U hone;generalize xs.flatMap (λa:Int=>[Value.int .i64 a])=news at *;clear hnl hone hv;have vM:=λ(w:World) (a:Option Addr) (n c n' c':Nat)=>vH (P:=prog) w 53 3 a n c n' c' underlying53;go_in;go_wp2_with (at_builtin;refine mH _ rfl _ _ 53 rfl w.heap.size 3 i0 (.int .i64 0) 1 8 underlying53 hi hz0 hz1 hz2 rfl aW _ _ _ rfl (F7 w #[] 0 (aV _) qN rfl) ad xs.length c news rfl HL.o (hnews.o _ (Bl.alloc (aB _ _) _)) HO.o wh ae aj ?_;intro v' w4 hown' hgrow _)
  have hb4:=gJ (Bl.alloc (aB w.heap.size w) _) hgrow aj (λj hj=>Gf);go_ret;exact⟨_,rfl,Og,hb4⟩
theorem avN:(prog.info? 115).map (λi=>(i.zero,i.size,i.bytes))=some (some (.agg #[.int .i64 0,.int .i64 0,.int .i64 0]),3,24):=aF
theorem arK(v:Value)(xs:List dF)(w:World)(hv:aC Shape.pnt w v xs)(hl:xs.length≤1000000000):
  Calls prog 213 #[v] w (Kb 115 3 xs.length (xs.flatMap (λp:dF=>[Value.int .i64 p.1,Value.int .i64 p.2.1,Value.int .i64 p.2.2])) w):=by
 obtain⟨a,c,rfl,hc1,hc2⟩:=hv.shape;obtain⟨i0,hi,hz0,hz1,hz2⟩:=dY avN;rcases a with _|ad
 ·have h0:xs=[]:=by
   rcases pJ xs.length with h|h
   ·exact jo h
   ·obtain⟨b,o,cs,e,_⟩:=hv.at h;cases e
  subst h0;have vM:=λ(w:World) (a:Option Addr) (n c n' c':Nat)=>vH (P:=prog) w 52 115 a n c n' c' underlying52;go_in;go_wp2;go_ret;exact⟨_,rfl,by simpa using nJ w w.heap.size 115 3,aB _ _⟩
 ·have hnews:Hid (∀W,BL w W→∀j u,(xs.flatMap (λp:dF=>[Value.int .i64 p.1,Value.int .i64 p.2.1,Value.int .i64 p.2.2]))[j]?=some u→W.cell? (ad.add j)=some u):=U (by
   intro W hW j u hj;rcases pJ xs.length with h|h
   ·exact aFx
   ·obtain⟨b,o,cs,e,_⟩:=hv.at h;cases e
    exact I1 NT aW (hv.below hW) j u hj)
  have hnl:(xs.flatMap (λp:dF=>[Value.int .i64 p.1,Value.int .i64 p.2.1,Value.int .i64 p.2.2])).length=xs.length*3:=by
   clear hv hnews hc1 hl
   induction xs with
   |nil=>rfl
   |cons x xs ih=>simp only[jN,dn,dS,ih,fU];omega
  have hone:∀u∈xs.flatMap (λp:dF=>[Value.int .i64 p.1,Value.int .i64 p.2.1,Value.int .i64 p.2.2]),u.oneCell'=true:=by
   intro u hu;obtain⟨x,_,hx⟩:=iB.1 hu;simp at hx;rcases hx with rfl|rfl|rfl<;>rfl
  have HL:=U hnl;have HO:=U hone;generalize xs.flatMap (λp:dF=>[Value.int .i64 p.1,Value.int .i64 p.2.1,Value.int .i64 p.2.2])=news at *;clear hnl hone hv;have vM:=λ(w:World) (a:Option Addr) (n c n' c':Nat)=>vH (P:=prog) w 52 115 a n c n' c' underlying52;go_in;go_wp2_with (at_builtin;refine mH _ rfl _ _ 52 rfl w.heap.size 115 i0 (.agg #[.int .i64 0,.int .i64 0,.int .i64 0]) 3 24 underlying52 hi hz0 hz1 hz2 rfl aW _ _ _ rfl (F7 w #[] 0 (aV _) qN rfl) ad xs.length c news rfl HL.o (hnews.o _ (Bl.alloc (aB _ _) _)) HO.o wh ae aj ?_;intro v' w4 hown' hgrow _)
  have hb4:=gJ (Bl.alloc (aB w.heap.size w) _) hgrow aj (λj hj=>Gf);go_ret;exact⟨_,rfl,Og,hb4⟩
theorem avX:(prog.info? 283).map (λi=>(i.zero,i.size,i.bytes))=some (some (.agg #[.int .i64 0,.int .i64 0,.int .i64 0]),3,24):=aF
theorem arM(v:Value)(xs:List (Int×Sp))(w:World)(hv:aC Shape.trip w v xs)(hl:xs.length≤1000000000):
  Calls prog 215 #[v] w (Kb 283 3 xs.length (xs.flatMap (λp:Int×Sp=>[Value.int .i64 p.1,Value.int .i64 p.2.1,Value.int .i64 p.2.2])) w):=by
 obtain⟨a,c,rfl,hc1,hc2⟩:=hv.shape;obtain⟨i0,hi,hz0,hz1,hz2⟩:=dY avX;rcases a with _|ad
 ·have h0:xs=[]:=by
   rcases pJ xs.length with h|h
   ·exact jo h
   ·obtain⟨b,o,cs,e,_⟩:=hv.at h;cases e
  subst h0;have vM:=λ(w:World) (a:Option Addr) (n c n' c':Nat)=>vH (P:=prog) w 55 283 a n c n' c' underlying55;go_in;go_wp2;go_ret;exact⟨_,rfl,by simpa using nJ w w.heap.size 283 3,aB _ _⟩
 ·have hnews:Hid (∀W,BL w W→∀j u,(xs.flatMap (λp:Int×Sp=>[Value.int .i64 p.1,Value.int .i64 p.2.1,Value.int .i64 p.2.2]))[j]?=some u→W.cell? (ad.add j)=some u):=U (by
   intro W hW j u hj;rcases pJ xs.length with h|h
   ·exact aFx
   ·obtain⟨b,o,cs,e,_⟩:=hv.at h;cases e
    exact I1 jC aW (hv.below hW) j u hj)
  have hnl:(xs.flatMap (λp:Int×Sp=>[Value.int .i64 p.1,Value.int .i64 p.2.1,Value.int .i64 p.2.2])).length=xs.length*3:=by
   clear hv hnews hc1 hl
   induction xs with
   |nil=>rfl
   |cons x xs ih=>simp only[jN,dn,dS,ih,fU];omega
  have hone:∀u∈xs.flatMap (λp:Int×Sp=>[Value.int .i64 p.1,Value.int .i64 p.2.1,Value.int .i64 p.2.2]),u.oneCell'=true:=by
   intro u hu;obtain⟨x,_,hx⟩:=iB.1 hu;simp at hx;rcases hx with rfl|rfl|rfl<;>rfl
  have HL:=U hnl;have HO:=U hone;generalize xs.flatMap (λp:Int×Sp=>[Value.int .i64 p.1,Value.int .i64 p.2.1,Value.int .i64 p.2.2])=news at *;clear hnl hone hv;have vM:=λ(w:World) (a:Option Addr) (n c n' c':Nat)=>vH (P:=prog) w 55 283 a n c n' c' underlying55;go_in;go_wp2_with (at_builtin;refine mH _ rfl _ _ 55 rfl w.heap.size 283 i0 (.agg #[.int .i64 0,.int .i64 0,.int .i64 0]) 3 24 underlying55 hi hz0 hz1 hz2 rfl aW _ _ _ rfl (F7 w #[] 0 (aV _) qN rfl) ad xs.length c news rfl HL.o (hnews.o _ (Bl.alloc (aB _ _) _)) HO.o wh ae aj ?_;intro v' w4 hown' hgrow _)
  have hb4:=gJ (Bl.alloc (aB w.heap.size w) _) hgrow aj (λj hj=>Gf);go_ret;exact⟨_,rfl,Og,hb4⟩
theorem avJ:(prog.info? 117).map (λi=>(i.zero,i.size,i.bytes))=some (some (.agg #[.int .i64 0,.int .i64 0,.int .i64 0]),3,24):=aF
theorem arI(v:Value)(xs:List (Int×Sp))(w:World)(hv:aC Shape.trip w v xs)(hl:xs.length≤1000000000):
  Calls prog 156 #[v] w (Kb 117 3 xs.length (xs.flatMap (λp:Int×Sp=>[Value.int .i64 p.1,Value.int .i64 p.2.1,Value.int .i64 p.2.2])) w):=by
 obtain⟨a,c,rfl,hc1,hc2⟩:=hv.shape;obtain⟨i0,hi,hz0,hz1,hz2⟩:=dY avJ;rcases a with _|ad
 ·have h0:xs=[]:=by
   rcases pJ xs.length with h|h
   ·exact jo h
   ·obtain⟨b,o,cs,e,_⟩:=hv.at h;cases e
  subst h0;have vM:=λ(w:World) (a:Option Addr) (n c n' c':Nat)=>vH (P:=prog) w 83 117 a n c n' c' underlying83;go_in;go_wp2;go_ret;exact⟨_,rfl,by simpa using nJ w w.heap.size 117 3,aB _ _⟩
 ·have hnews:Hid (∀W,BL w W→∀j u,(xs.flatMap (λp:Int×Sp=>[Value.int .i64 p.1,Value.int .i64 p.2.1,Value.int .i64 p.2.2]))[j]?=some u→W.cell? (ad.add j)=some u):=U (by
   intro W hW j u hj;rcases pJ xs.length with h|h
   ·exact aFx
   ·obtain⟨b,o,cs,e,_⟩:=hv.at h;cases e
    exact I1 jC aW (hv.below hW) j u hj)
  have hnl:(xs.flatMap (λp:Int×Sp=>[Value.int .i64 p.1,Value.int .i64 p.2.1,Value.int .i64 p.2.2])).length=xs.length*3:=by
   clear hv hnews hc1 hl
   induction xs with
   |nil=>rfl
   |cons x xs ih=>simp only[jN,dn,dS,ih,fU];omega
  have hone:∀u∈xs.flatMap (λp:Int×Sp=>[Value.int .i64 p.1,Value.int .i64 p.2.1,Value.int .i64 p.2.2]),u.oneCell'=true:=by
   intro u hu;obtain⟨x,_,hx⟩:=iB.1 hu;simp at hx;rcases hx with rfl|rfl|rfl<;>rfl
  have HL:=U hnl;have HO:=U hone;generalize xs.flatMap (λp:Int×Sp=>[Value.int .i64 p.1,Value.int .i64 p.2.1,Value.int .i64 p.2.2])=news at *;clear hnl hone hv;have vM:=λ(w:World) (a:Option Addr) (n c n' c':Nat)=>vH (P:=prog) w 83 117 a n c n' c' underlying83;go_in;go_wp2_with (at_builtin;refine mH _ rfl _ _ 83 rfl w.heap.size 117 i0 (.agg #[.int .i64 0,.int .i64 0,.int .i64 0]) 3 24 underlying83 hi hz0 hz1 hz2 rfl aW _ _ _ rfl (F7 w #[] 0 (aV _) qN rfl) ad xs.length c news rfl HL.o (hnews.o _ (Bl.alloc (aB _ _) _)) HO.o wh ae aj ?_;intro v' w4 hown' hgrow _)
  have hb4:=gJ (Bl.alloc (aB w.heap.size w) _) hgrow aj (λj hj=>Gf);go_ret;exact⟨_,rfl,Og,hb4⟩
theorem aku:(prog.info? 49).map (λi=>(i.zero,i.size,i.bytes))=some (some (.agg #[.int .i64 0,.int .i64 0]),2,16):=aF
theorem arJ(v:Value)(xs:List Sp)(w:World)(hv:aC Shape.span w v xs)(hl:xs.length≤1000000000):
  Calls prog 158 #[v] w (Kb 49 2 xs.length (xs.flatMap (λp:Sp=>[Value.int .i64 p.1,Value.int .i64 p.2])) w):=by
 obtain⟨a,c,rfl,hc1,hc2⟩:=hv.shape;obtain⟨i0,hi,hz0,hz1,hz2⟩:=dY aku;rcases a with _|ad
 ·have h0:xs=[]:=by
   rcases pJ xs.length with h|h
   ·exact jo h
   ·obtain⟨b,o,cs,e,_⟩:=hv.at h;cases e
  subst h0;have vM:=λ(w:World) (a:Option Addr) (n c n' c':Nat)=>vH (P:=prog) w 63 49 a n c n' c' underlying63;go_in;go_wp2;go_ret;exact⟨_,rfl,by simpa using nJ w w.heap.size 49 2,aB _ _⟩
 ·have hnews:Hid (∀W,BL w W→∀j u,(xs.flatMap (λp:Sp=>[Value.int .i64 p.1,Value.int .i64 p.2]))[j]?=some u→W.cell? (ad.add j)=some u):=U (by
   intro W hW j u hj;rcases pJ xs.length with h|h
   ·exact aFx
   ·obtain⟨b,o,cs,e,_⟩:=hv.at h;cases e
    exact I1 mE aW (hv.below hW) j u hj)
  have hnl:(xs.flatMap (λp:Sp=>[Value.int .i64 p.1,Value.int .i64 p.2])).length=xs.length*2:=by
   clear hv hnews hc1 hl
   induction xs with
   |nil=>rfl
   |cons x xs ih=>simp only[jN,dn,dS,ih,fU];omega
  have hone:∀u∈xs.flatMap (λp:Sp=>[Value.int .i64 p.1,Value.int .i64 p.2]),u.oneCell'=true:=by
   intro u hu;obtain⟨x,_,hx⟩:=iB.1 hu;simp at hx;rcases hx with rfl|rfl<;>rfl
  have HL:=U hnl;have HO:=U hone;generalize xs.flatMap (λp:Sp=>[Value.int .i64 p.1,Value.int .i64 p.2])=news at *;clear hnl hone hv;have vM:=λ(w:World) (a:Option Addr) (n c n' c':Nat)=>vH (P:=prog) w 63 49 a n c n' c' underlying63;go_in;go_wp2_with (at_builtin;refine mH _ rfl _ _ 63 rfl w.heap.size 49 i0 (.agg #[.int .i64 0,.int .i64 0]) 2 16 underlying63 hi hz0 hz1 hz2 rfl aW _ _ _ rfl (F7 w #[] 0 (aV _) qN rfl) ad xs.length c news rfl HL.o (hnews.o _ (Bl.alloc (aB _ _) _)) HO.o wh ae aj ?_;intro v' w4 hown' hgrow _)
  have hb4:=gJ (Bl.alloc (aB w.heap.size w) _) hgrow aj (λj hj=>Gf);go_ret;exact⟨_,rfl,Og,hb4⟩
end
theorem acj:∀ {l:List Sp} {n m:Int},Mem m l→n≤m→(∀s∈l,s.1≤s.2)→l.Pairwise (λs t=>s.2+1<t.1)→(jA l n).2=true∧(jA l n).1≤m
 |[],_,_,h,_,_,_=>absurd h (gU _)
 |s::r,n,m,h,hn,hv,hp=>by
  unfold jA;obtain⟨h1,h2⟩:=FX.1 hp;by_cases hle:n≤s.2
  ·rw[aG hle];refine⟨rfl,?_⟩;rcases mem_cons.1 h with⟨a,b⟩|⟨t,ht,a,b⟩
   ·exact ic
   ·have:=h1 t ht;have:=hv s aj;dsimp only;omega
  ·rw[aD hle];rcases mem_cons.1 h with⟨a,b⟩|h
   ·omega
   ·exact acj h hn (λt ht=>hv t GD) h2
theorem RB:∀ {l:List Sp} {n:Int},(jA l n).2=true→(∀s∈l,s.1≤s.2)→Mem (jA l n).1 l∧n≤(jA l n).1
 |[],_,h,_=>by simp[jA]at h
 |s::r,n,h,hv=>by
  unfold jA at h ⊢;by_cases hle:n≤s.2
  ·rw[aG hle];have:=hv s aj;exact⟨mem_cons.2 (.inl ⟨ic,ic⟩),ic⟩
  ·rw[aD hle]at h ⊢;have:=RB h (λt ht=>hv t GD);exact⟨mem_cons.2 (.inr this.1),this.2⟩
theorem axo{n:Int}(h:(jA l n).2=false)(hl:bF l){m:Int}(hm:Mem m l):m<n:=by
 rcases(by omega:m<n∨n≤m)with h1|h1
 ·exact h1
 ·have:=(acj hm h1 hl.1 hl.2).1;rw[h]at this;cases this
theorem ali:∀ {l:List Sp} {n:Int},(jA l n).2=false→(jA l n).1=0
 |[],_,_=>rfl
 |s::r,n,h=>by
  unfold jA at h ⊢;by_cases hle:n≤s.2
  ·rw[aG hle]at h;cases h
  ·rw[aD hle]at h ⊢;exact ali h
def eQ(l:List Int)(i:Nat):Int:=l.getD i 0
def lift(bd:Nat→Nat→Int)(o:Nat→Int)(i:Nat)(n:Int):Nat→Int
 |0=>n
 |k+1=>max (lift bd o i n k) (o k-bd i k)
theorem VY{bd:Nat→Nat→Int}{o:Nat→Int}{i:Nat}{n:Int}:∀k,n≤lift bd o i n k
 |0=>oo _
 |k+1=>by have:=VY (bd:=bd) (o:=o) (i:=i) (n:=n) k;unfold lift;omega
theorem akQ{bd:Nat→Nat→Int}{o:Nat→Int}{i:Nat}{n:Int}:∀ {k j},j<k→o j-bd i j≤lift bd o i n k
 |k+1,j,h=>by
  unfold lift;rcases Nat.lt_succ_iff_lt_or_eq.1 h with h|rfl
  ·have:=akQ (bd:=bd) (o:=o) (i:=i) (n:=n) h;omega
  ·omega
theorem VZ{bd:Nat→Nat→Int}{o:Nat→Int}{i:Nat}{n M:Int}(hn:n≤M):∀ {k},(∀j,j<k→o j-bd i j≤M)→lift bd o i n k≤M
 |0,_=>hn
 |k+1,h=>by
  have:=VZ (bd:=bd) (o:=o) (i:=i) hn (λj hj=>h j (Nat.lt_succ_of_lt hj));have:=h k (Nat.lt_succ_self k);unfold lift;omega
def Low(sets:List (List Sp))(bd:Nat→Nat→Int)(dW o:Nat→Int):Prop:=∀m,tY sets bd m→(∀i,i<sets.length→dW i≤m i)→∀i,i<sets.length→o i≤m i
theorem awP{sets:List (List Sp)}{bd:Nat→Nat→Int}{dW o:Nat→Int}(hs:∀j,bF (aP sets j))(h:Low sets bd dW o)(hi:i<sets.length)(hok:(jA (aP sets i) (o i)).2=true):
  Low sets bd dW (λj=>if j=i then lift bd o i (jA (aP sets i) (o i)).1 sets.length else o j):=by
 intro m hm hf j hj;by_cases e:j=i
 ·subst e;simp only[aG];have h1:=h m hm hf j hj;have h2:=acj (hm.mem j hj) h1 (hs j).1 (hs j).2;refine VZ h2.2 λk hk=>?_;have:=h m hm hf k hk;have:=hm.wind j k hj hk;omega
 ·simp only[aD e];exact h m hm hf j hj
theorem awO{sets:List (List Sp)}{bd:Nat→Nat→Int}{dW o:Nat→Int}(hs:∀j,bF (aP sets j))(h:Low sets bd dW o)(hi:i<sets.length)(hok:(jA (aP sets i) (o i)).2=false):
  ¬ ∃m,tY sets bd m∧∀j,j<sets.length→dW j≤m j:=by
 rintro⟨m,hm,hf⟩;have:=axo hok (hs i) (hm.mem i hi);have:=h m hm hf i hi;omega
def Still(sets:List (List Sp))(bd:Nat→Nat→Int)(o:Nat→Int)(i:Nat):Prop:=(jA (aP sets i) (o i)).2=true∧lift bd o i (jA (aP sets i) (o i)).1 sets.length=o i
theorem aAl{sets:List (List Sp)}{bd:Nat→Nat→Int}{dW o:Nat→Int}(hs:∀j,bF (aP sets j))(h:Low sets bd dW o)(hf:∀i,i<sets.length→dW i≤o i)(hst:∀i,i<sets.length→Still sets bd o i):Zm sets bd dW o:=by
 refine⟨⟨λi hi=>?_,λi k hi hk=>?_⟩,hf,λm hm hg=>h m hm hg⟩
 ·obtain⟨h1,h2⟩:=hst i hi;have h3:=RB h1 (hs i).1;have h4:=VY (bd:=bd) (o:=o) (i:=i) (n:=(jA (aP sets i) (o i)).1) sets.length;have:(jA (aP sets i) (o i)).1=o i:=ae;rw[this]at h3;exact h3.1
 ·obtain⟨_,h2⟩:=hst i hi;have:=akQ (bd:=bd) (o:=o) (i:=i) (n:=(jA (aP sets i) (o i)).1) hk;omega
def agx(sets:List (List Sp))(bd:Nat→Nat→Int)(i:Nat)(l:List Sp):Prop:=bF l∧∀v,Mem v l↔∃m,tY sets bd m∧m i=v
section
attribute [local go_sem] Qv
def iU(bd:List (List Int))(i k:Nat):Int:=(bd.getD i []).getD k 0
theorem Nv(l:List Int):l.flatMap (λa:Int=>[Value.int .i64 a])=l.map (Value.int .i64):=by induction l with
 |nil=>rfl
 |cons x l ih=>simp[ih]
theorem EO{a:Option Addr}{n:Nat}{w:World}{l:List Int}(h:pK 3 base w (.slice a n c) l)(hk:k<l.length):∃g,a=some ⟨g,0,none⟩∧base≤g∧g<w.heap.size∧w.cell? ⟨g,k,none⟩=some (.int .i64 l[k])∧
  (∀j,w.frozen? ⟨g,j,none⟩=false)∧∀x:Int,pK 3 base (w.setCell ⟨g,k,none⟩ (.int .i64 x)) (.slice a n c) (l.set k x):=by
 have h':=h;obtain⟨hl,h2⟩:=h;rcases h2 with⟨e,h0⟩|⟨g,cap,cur,e,hg,hh,hn,hc,hs,ht⟩
 ·cases e;simp at hl;omega
 ·cases e;refine⟨g,rfl,hg,(h'.lt g rfl).2,?_,λj=>h'.frozenAt j,λx=>?_⟩
  ·rw[h'.cellAt k (by rw[←hl,Nv];simpa using hk),Nv];simp[hk]
  ·have:=(h'.stored k (.int .i64 x)).1;rw[Nv]at this;show World.ownsRow _ _ _ _ _ _ _
   rw[Nv,qW];rw[List.map_set];exact this
theorem aBV{n m:Int}{b:Bool}{w:World}{d:Nat}{os:Array Obj}(hv:aC Shape.span w v l)(hn:Hid (jA l n=(m,b))):
  Calls prog 203 #[v,n] (Sort.grow (redrawn w d) os) λe w''=>e=.returned (.tuple #[m,.bool b])∧∃p:Regrown,w''=Sort.grow (redrawn w p.d) p.os:=by
 have:=uZ (aBU v l n _ (hv.below (Ih w d os)));rw[hn.o]at this;exact this
def muO(g n:Nat)(w:World):Nat:=((List.range n).map λj=>(300000-intOf ((w.cell? ⟨g,j,none⟩).getD undef)).toNat).sum
theorem sum_lt{f h:Nat→Nat}{n:Nat}(hi:i<n)(hle:∀j,j<n→f j≤h j)(hlt:f i<h i):((List.range n).map f).sum<((List.range n).map h).sum:=by
 have le:∀m,m≤n→((List.range m).map f).sum≤((List.range m).map h).sum:=by
  intro m
  induction m with
  |zero=>intro _;simp
  |succ m ih=>intro hm;have:=ih ae;have:=hle m ae;simp[jq];omega
 have key:∀m,i<m→m≤n→((List.range m).map f).sum<((List.range m).map h).sum:=by
  intro m
  induction m with
  |zero=>intro h _;omega
  |succ m ih=>
   intro h1 hm;by_cases e:i=m
   ·subst e;have:=le i ae;simp[jq];omega
   ·have:=ih ae ae;have:=hle m ae;simp[jq];omega
 exact key n hi (aV _)
theorem We(o:List Int)(i:Nat)(x:Int)(hi:i<o.length)(j:Nat):eQ (o.set i x) j=if j=i then x else eQ o j:=by
 unfold eQ;by_cases e:j=i
 ·subst e;simp[bN,hi]
 ·simp[bN,Ar (Ay e),e]
structure Cal(sets:List (List Sp))(bd:Nat→Nat→Int)(dW:Nat→Int)(o:List Int):Prop where
 len:o.length=sets.length
 low:Low sets bd dW (eQ o)
 ge:∀i,i<sets.length→dW i≤eQ o i
 bd:∀i,i<sets.length→0≤eQ o i∧eQ o i≤300000
theorem ayl(B:Nat)(vs:List Value)(vb GM Oo:Value)(bd:List (List Int))(sets:List (List Sp))(dW:List Int)(w:World)(hX:Bx B vs w)(h10:vs[10]?=some vb)(hb:aC Shape.int.list w vb bd)(hs:aC Shape.span.list w GM sets)(hf:aC Shape.int w Oo dW)
  (hn:sets.length≤1000) (hfl:dW.length=sets.length) (hbl:bd.length=sets.length) (hbr:∀r∈bd,r.length=sets.length∧∀x∈r,0≤x∧x≤10000000) (hsn:∀l∈sets,bF l∧∀s∈l,0≤s.1∧s.2≤200000) (Nk:∀x∈dW,0≤x∧x≤300000) :
  Calls prog 141 #[.pointer (some ⟨B,0,none⟩),GM,Oo] w λe w'=>BL w w'∧
   ((∃v l,e=.returned (.tuple #[v,.bool true])∧pK 3 w.heap.size w' v l∧l.length=sets.length∧Zm sets (iU bd) (eQ dW) (eQ l))∨
    (e=.returned (.tuple #[.slice none 0 0,.bool false])∧¬ ∃m,tY sets (iU bd) m∧∀j,j<sets.length→eQ dW j≤m j)):=by
 obtain⟨a1,c1,rfl,hcs,hcs2⟩:=hs.shape;obtain⟨af,cf,rfl,hcf,aDr⟩:=hf.shape;obtain⟨ab,cb,rfl,hcb,QY⟩:=hb.shape;have dL:=(hX.cell 10).trans h10;have lB:=hX.lt;have HS:=U hs;have xD:=U hb;have HF:=U hf
 have NR:Hid (∀j,bF (aP sets j)):=U (λj=>by
  unfold aP;by_cases h:j<sets.length
  ·rw[bN,di h];exact(hsn _ (eu h)).1
  ·rw[bN,wT ae];exact kH)
 have NB:Hid (∀j,(h:j<sets.length)→aP sets j=sets[j]∧∀s∈sets[j],s.1≤s.2∧0≤s.1∧s.2≤200000):=U (λj h=>⟨by unfold aP;rw[List.getD_eq_getElem?_getD,List.getElem?_eq_getElem h];rfl,λs hs'=>⟨(hsn _ (List.getElem_mem h)).1.1 s hs',(hsn _ (List.getElem_mem h)).2 s hs'⟩⟩)
 have BB:Hid (∀i k,(hi:i<sets.length)→(hk:k<sets.length)→∃(h1:i<bd.length) (h2:k<bd[i].length),iU bd i k=bd[i][k]∧0≤iU bd i k∧iU bd i k≤10000000):=U (λi k hi hk=>by
  have h1:i<bd.length:=ae;have hr:=hbr _ (eu h1);have h2:k<bd[i].length:=ae;have e:iU bd i k=bd[i][k]:=by unfold iU;simp[List.getD_eq_getElem?_getD,h1,h2]
  exact⟨h1,h2,e,by rw[e];exact hr.2 _ (eu h2)⟩)
 have FB:Hid (∀j,j<sets.length→0≤eQ dW j∧eQ dW j≤300000):=U (λj hj=>by
  have h1:j<dW.length:=ae;have:eQ dW j=dW[j]:=by unfold eQ;simp[List.getD_eq_getElem?_getD,h1]
  rw[this];exact Nk _ (eu h1))
 have tN:Hid (∀i,(h:i<bd.length)→bd[i].length=dW.length):=U (λi h=>by rw[hfl];exact(hbr _ (eu h)).1);have nD:=U hfl;have hfn:dW.length≤1000:=ae;clear hX h10 hb hs hf hbr hsn Nk hfl hbl;go_in;go_wp2_with fail
 go_step3
 go_wp2_with fail;refine(ahw _ dW w HF.o ae).mono ?_;rintro e w1 ⟨v,rfl,hO,hb1⟩;have HO:Hid (pK 3 w.heap.size w1 v dW):=U hO;have HB1:=U hb1;obtain⟨a8,c8,rfl⟩:=bv hO;clear hO
 obtain⟨g,hg⟩:∃g:Nat,Hid (∀p,a8=some p→p=⟨g,0,none⟩):=by
  rcases a8 with _|p
  ·exact⟨0,U aj⟩
  ·obtain⟨g,cap,cur,e,_⟩:∃g cap cur,Value.slice (some p) dW.length c8=.slice (some ⟨g,0,none⟩) dW.length cap∧w1.heap[g]?=some (.cells cur 3 (0,0)):=by
    rcases HO.o.2 with⟨e,_⟩|⟨g,cap,cur,e,_,hh,_⟩
    ·cases e
    ·exact⟨g,cap,cur,e,hh⟩
   cases e;exact⟨g,U (λp hp=>by cases hp;rfl)⟩
 clear hb1;go_wp2_with fail
 go_step3
 go_wp2_with fail;have hg:=hg
 go_loopw [17] (λWB wr=>∃o:List Int,Hid (pK 3 w.heap.size wr (.slice a8 dW.length c8) o)∧Hid (Cal sets (iU bd) (eQ dW) o)∧BL w wr) (λ_ wr=>muO g sets.length wr)
 case atStart=>exact⟨dW,HO,U ⟨nD.o,λm hm hf=>hf,λi hi=>oo _,FB.o⟩,HB1.o⟩
 case round=>
  clear HO HB1;obtain⟨o,HO,HC,hb⟩:=hrel;obtain⟨wo,hwo⟩:∃wo:World,wo=wr:=⟨_,rfl⟩;subst hwo;have vF:Hid (o.length=dW.length):=U (by have:=HO.o.1;have h1:(o.flatMap (λa:Int=>[Value.int .i64 a])).length=o.length:=(by rw[Nv];simp);have:=HC.o.len;have:=nD.o;omega);have HB0:=U hb;have YE:=HO;go_wp2
  go_loopw [17] (λWB wi=>∃i:Nat,i≤dW.length∧WB=.int .i64 i∧Hid (∀j,j<i→Still sets (iU bd) (eQ o) j)∧Hid (pK 3 w.heap.size wi (.slice a8 dW.length c8) o)∧BL w wi∧Hid (BL wo wi)) (λWB _=>dW.length-(intOf WB).toNat)
  case atStart=>exact⟨0,ae,rfl,U ae,HO,HB0.o,U (aB _ _)⟩
  case round=>
   clear HO HB0 hb;obtain⟨i,hi,rfl,HT,HO,hb,zY⟩:=hrel;by_cases hlt:i<dW.length
   ·have his:i<sets.length:=by have:=nD.o;omega
    obtain⟨q1,o1,u1,e1,_,d1,L1⟩:=(HS.o.below hb).list_at his;subst e1;obtain⟨g',eg,hgw,lg,c2,_,_⟩:=EO HO.o (k:=i) Es;obtain rfl:g'=g:=by have:=hg.o _ eg;injection this
    subst eg;obtain⟨h3,h4⟩:=NB.o i his;have bL:Hid (eQ o i=o[i]' Es):=U aua;have eO:=U L1;clear L1;obtain⟨n0,ok,HN⟩:∃n0 ok,Hid (jA sets[i] (o[i]' Es)=(n0,ok)):=⟨_,_,U rfl⟩;have qB:Hid (jA (aP sets i) (eQ o i)=(n0,ok)):=U (by rw[bL.o,h3];exact HN.o)
    have hn0:0≤n0∧n0≤300000:=by
     have h5:=HC.o.bd i his;rw[bL.o]at h5;cases hok:ok
     ·have:=ali (l:=sets[i]) (n:=o[i]' Es) (by rw[HN.o,hok]);rw[HN.o]at this;dsimp only at this;omega
     ·have:=RB (l:=sets[i]) (n:=o[i]' Es) (by rw[HN.o,hok]) (λs hs=>(h4 s hs).1);rw[HN.o]at this;dsimp only at this;obtain⟨s,hs,g1,g2⟩:=this.1;have:=h4 s hs;omega
    generalize o[i]' Es=oi at *;have O7:=U (And.intro h3 h4);clear h3 h4;generalize sets[i]=si at *;obtain⟨a6,c6,rfl,_,_⟩:=eO.o.shape;have i1:(0:Int)≤(i:Int):=ae;have i2:(i:Int)<sets.length:=ae;have i3:(i:Int)<dW.length:=ae;go_wp2;refine qz aF aF ?_;(repeat(go_big_quiet_step (first|exact aBV eO.o HN|fail)));refine aH ?_;intro w2 hb2;replace HO:=U (il HO.o hb2);replace hb:=Bl.call hb hb2;replace zY:=U (Bl.call zY.o hb2);clear c2 d1 hb2 eO;go_wp2
    go_loopw [10,34] (λs10 s34 wk=>∃k:Nat,k≤dW.length∧s34=.int .i64 k∧s10=.int .i64 (lift (iU bd) (eQ o) i n0 k)∧Hid (pK 3 w.heap.size wk (.slice (some ⟨g',0,none⟩) dW.length c8) o)∧BL w wk∧Hid (BL wo wk)) (λ_ s34 _=>dW.length-(intOf s34).toNat)
    case atStart=>exact⟨0,ae,rfl,rfl,HO,hb,zY⟩
    case round=>
     clear HO hb zY;obtain⟨k,hk,rfl,rfl,HO,hb,zY⟩:=hrel;by_cases hkt:k<dW.length
     ·have hks:k<sets.length:=by have:=nD.o;omega
      obtain⟨b1,b2,b3,b4,b5⟩:=BB.o i k his hks;obtain⟨q2,o2,u2,e2,_,d2,L2⟩:=(xD.o.below hb).list_at b1;subst e2;obtain⟨a5,c5,rfl,_,_⟩:=L2.shape;obtain⟨q3,o3,e3,d3⟩:=L2.int_at b2;subst e3;have lq3:=fe _ _ d3;dsimp only at lq3;obtain⟨g'',eg,_,lg2,c2,_,_⟩:=EO HO.o (k:=k) Es;cases eg;have ja:eQ o k=o[k]' Es:=aua;have zo:=HC.o.bd k hks;obtain⟨X,hX⟩:∃X,max (lift (iU bd) (eQ o) i n0 k) (eQ o k-iU bd i k)=X:=⟨_,rfl⟩;have wP:Hid (lift (iU bd) (eQ o) i n0 (k+1)=X):=U hX;have HX0:=U hX;clear hX;rw[←ja]at c2;rw[←b3]at d3;have hrl:=U (tN.o i b1);clear b3 ja;generalize eQ o k=ok' at *;generalize iU bd i k=bik at *;generalize lift (iU bd) (eQ o) i n0 k=lk at *;have xb:=(hb.cell (p:=⟨B,10,none⟩) lB).trans dL;have lB':B<wr.heap.size:=QT;generalize hbi:bd[i]=row at *;have w1:IntKind.i64.wrap (ok'-bik)=ok'-bik:=dE _ ae;have j1:(0:Int)≤(k:Int):=ae;have j2:(k:Int)<dW.length:=ae;have j3:(k:Int)<row.length:=by have:=hrl.o;omega
      have j4:(i:Int)<bd.length:=ae;go_wp2;refine qz aF aF ?_;(repeat(go_big_quiet_step (fail)));refine aH ?_;intro w2 hb2;replace HO:=U (il HO.o hb2);replace hb:=Bl.call hb hb2;replace zY:=U (Bl.call zY.o hb2);clear c2 d2 d3 xb hb2;go_wp2;go_roundw
      case rel=>exact⟨k+1,ae,aY,by rw[wP.o];exact gQ _ (by have:=HX0.o;first|omega|(split<;>omega)),HO,hb,zY⟩
      case measure=>exact aFF
     ·have hkk:k=dW.length:=ae;have HLK:Hid (lift (iU bd) (eQ o) i n0 k=lift (iU bd) (eQ o) i n0 sets.length):=U (by rw[hkk,nD.o]);obtain⟨g'',eg,_,lg2,c2,z2,tQ⟩:=EO HO.o (k:=i) Es;cases eg;have fu:Hid (o[i]' Es=oi):=U (by have:=vF.o;have:=bL.o;unfold eQ at this;rw[List.getD_eq_getElem?_getD,List.getElem?_eq_getElem ae]at this;exact this);rw[fu.o]at c2;have tQ:=U tQ;rw[HLK.o];clear HLK;obtain⟨X,HX⟩:=nm (lift (iU bd) (eQ o) i n0 sets.length);rw[HX.o];cases ok
      ·go_wp2_with fail;try rw[Exit.noGoto_ret]
       go_ret2;exact⟨hb,.inr ⟨rfl,awO NR.o HC.o.low his Ww⟩⟩
      ·by_cases QR:X=oi
       ·have t1:(X != oi)=false:=by simp[QR]
        have HT2:Hid (∀j,j<i+1→Still sets (iU bd) (eQ o) j):=U (λj hj=>by
         by_cases e:j=i
         ·subst e;refine⟨Ww,?_⟩;rw[qB.o,bL.o];dsimp only;rw[HX.o,QR]
         ·exact HT.o j ae)
        clear QR tQ;go_wp2;go_roundw
        case rel=>exact⟨i+1,ae,aY,HT2,HO,hb,zY⟩
        case measure=>exact aFF
       ·have t1:(X != oi)=true:=by simpa using QR
        have aor:Hid (Cal sets (iU bd) (eQ dW) (o.set i X)):=U (by
         have hol:i<o.length:=Es;have h5:=HC.o
         have hle:oi≤X:=by
          have h6:=RB (l:=aP sets i) (n:=eQ o i) Ww (NR.o i).1;rw[qB.o,bL.o]at h6;dsimp only at h6;have h7:=VY (bd:=iU bd) (o:=eQ o) (i:=i) (n:=n0) sets.length;rw[HX.o]at h7;omega
         have hX2:X≤300000:=by rw[←HX.o];exact VZ hn0.2 (λj hj=>by have:=h5.bd j hj;obtain⟨_,_,_,h8,_⟩:=BB.o i j his hj;omega)
         refine⟨by rw[qW];exact h5.len,?_,λj hj=>?_,λj hj=>?_⟩
         ·have h9:=awP NR.o h5.low his Ww;rw[qB.o]at h9;dsimp only at h9;rw[HX.o]at h9;intro m hm hf j hj;rw[We o i X hol j];exact h9 m hm hf j hj
         ·rw[We o i X hol j];have:=h5.ge j hj;split
          ·rename_i e;subst e;rw[bL.o]at this;omega
          ·exact this
         ·rw[We o i X hol j];have:=h5.bd j hj;split
          ·rename_i e;subst e;rw[bL.o]at this;omega
          ·exact this)
        have HMU:Hid (muO g' sets.length (wr.setCell ⟨g',i,none⟩ (.int .i64 X))<muO g' sets.length wo):=U (by
         have hcell:∀j,j<sets.length→wo.cell? ⟨g',j,none⟩=some (.int .i64 (eQ o j)):=λj hj=>by
          obtain⟨g3,e3,_,l3,c3,_,_⟩:=EO YE.o (k:=j) (by have:=vF.o;have:=nD.o;omega);cases e3;rw[c3];unfold eQ;rw[List.getD_eq_getElem?_getD,List.getElem?_eq_getElem (by have:=vF.o;have:=nD.o;omega)];rfl
         have hcell2:∀j,j<sets.length→wr.cell? ⟨g',j,none⟩=some (.int .i64 (eQ o j)):=λj hj=>by
          have:=hcell j hj;exact(zY.o.cell (p:=⟨g',j,none⟩) (fe _ _ this)).trans this
         have hX2:X≤300000:=by rw[←HX.o];exact VZ hn0.2 (λj hj=>by have:=HC.o.bd j hj;obtain⟨_,_,_,h8,_⟩:=BB.o i j his hj;omega)
         have hle:oi≤X:=by
          have h6:=RB (l:=aP sets i) (n:=eQ o i) Ww (NR.o i).1;rw[qB.o,bL.o]at h6;dsimp only at h6;have h7:=VY (bd:=iU bd) (o:=eQ o) (i:=i) (n:=n0) sets.length;rw[HX.o]at h7;omega
         refine sum_lt his (λj hj=>?_) ?_
         ·by_cases e:j=i
          ·subst e;rw[UL _ _ _ (hcell2 j hj),hcell j hj,bL.o];simp[intOf];omega
          ·rw[Qg _ _ _ _ (λk=>e akw),hcell2 j hj,hcell j hj];exact aV _
         ·rw[UL _ _ _ (hcell2 i his),hcell i his,bL.o];have:=(HC.o.bd i his);rw[bL.o]at this
          simp[intOf];omega)
        have hbs:BL w (wr.setCell ⟨g',i,none⟩ (.int .i64 X)):=Bl.setCell hb (by simpa using hgw) _;clear QR;go_wp2;go_roundw
        case rel=>exact⟨o.set i X,U (tQ.o X),aor,hbs⟩
        case measure=>exact HMU.o
   ·have hii:i=dW.length:=ae;go_wp2_with fail;try rw[Exit.noGoto_ret]
    go_ret2;exact⟨hb,.inl ⟨_,o,rfl,HO.o,HC.o.len,aAl NR.o HC.o.low HC.o.ge (λj hj=>HT.o j (by have:=nD.o;omega))⟩⟩
theorem ah3{a:Int}{w:World}{d:Nat}{os:Array Obj}(a1:-4000000000000≤a)(a2:a≤4000000000000)(hb0:0<b)(hb1:b≤4000000000000):Calls prog 274 #[a,b] (Sort.grow (redrawn w d) os) λe w''=>e=.returned (.int .i64 (a / b))∧∃p:Regrown,w''=Sort.grow (redrawn w p.d) p.os:=
 uZ (asR a b _ a1 a2 hb0 hb1)
theorem ain(x half lo hi:Int)(w:World)(x1:0≤x)(x2:x≤400000)(h1:0≤half)(h2:half≤5000)(s1:900≤lo)(s2:lo≤hi)(s3:hi≤1100):
  Calls prog 312 #[x,half,.agg #[lo,hi]] w (Kc (rO x half (lo,hi)) w):=by
 have HE:Hid (rO x half (lo,hi)=(max 0 ((x-half)*1000 / hi),(x+half)*1000 / lo)):=U rfl;go_in;go_wp2;refine iQ [16] [16] 1 [] [(0,[0,1,2,3,4,5,6,7,8,9,10,11,12,13,14,15],16)] [] [] [(0,[_,_,_,_,_,_,_,_,_,_,_,_,_,_,_,_],16,_)] [] ?_;refine aH (ku ?_)
 (repeat(go_big_quiet_step (first|exact ah3 ae ae ae ae|fail)));refine aH ?_
 intro w1 hb1;have X1:Bx (w.heap.size+1) [.int .i64 0,.int .i64 0] w1:=uu;have c1:=X1.cell;have z1:=X1.free;clear X1;go_wp2_with fail
 all_goals
  refine bS _ rfl (jl ?_);go_wp2;refine kE (v:=.agg #[.int .i64 (max 0 ((x-half)*1000 / hi)),.int .i64 ((x+half)*1000 / lo)]) (by simp[results,results312,go_sem,c1];try omega) rfl ⟨Du,?_⟩;exact rf
theorem asO(x1 x2 x3 x4 x5 x6 x7 x8 x9 dL:Int)(t1 t2 t3:Int)(w:World)(a1:0≤t1)(a2:t1≤400000)(h1:0≤t3)(h2:t3≤5000)(s1:900≤x7)(s2:x7≤x8)(s3:x8≤1100):
  Calls prog 271 #[.agg #[x1,x2,x3,x4,x5,x6,x7,x8,x9,dL],.agg #[t1,t2,t3]] w (Kc (rO t1 t3 (x7,x8)) w):=by
 generalize hr:rO t1 t3 (x7,x8)=r;obtain⟨r1,r2⟩:=r;have HR:=U hr;clear hr;go_in;go_wp2_with fail;refine(ain _ _ _ _ _ a1 a2 h1 h2 s1 s2 s3).mono ?_;rintro e w1 ⟨he,hb1⟩;rw[HR.o]at he;subst he;have X1:Bx (w.heap.size+2) [.int .i64 0,.int .i64 0] w1:=uu;have c1:=X1.cell;have z1:=X1.free;clear X1;go_wp2;refine kE (v:=.agg #[r1,r2]) (by simp[results,results271,go_sem,c1]) rfl ⟨rfl,?_⟩;exact rf
theorem asM(x1 x2 x3 x4 x5 x6 x7 x8 x9 dL:Int)(t1 t2 t3:Int)(w:World)(a1:0≤t2)(a2:t2≤400000)(h1:0≤t3)(h2:t3≤5000)(s1:900≤x9)(s2:x9≤dL)(s3:dL≤1100):
  Calls prog 313 #[.agg #[x1,x2,x3,x4,x5,x6,x7,x8,x9,dL],.agg #[t1,t2,t3]] w (Kc (rO t2 t3 (x9,dL)) w):=by
 generalize hr:rO t2 t3 (x9,dL)=r;obtain⟨r1,r2⟩:=r;have HR:=U hr;clear hr;go_in;go_wp2_with fail;refine(ain _ _ _ _ _ a1 a2 h1 h2 s1 s2 s3).mono ?_;rintro e w1 ⟨he,hb1⟩;rw[HR.o]at he;subst he;have X1:Bx (w.heap.size+2) [.int .i64 0,.int .i64 0] w1:=uu;have c1:=X1.cell;have z1:=X1.free;clear X1;go_wp2;refine kE (v:=.agg #[r1,r2]) (by simp[results,results313,go_sem,c1]) rfl ⟨rfl,?_⟩;exact rf
theorem asS(x1 x2 x3 x4 x5 x6 x7 x8 x9 dL:Int)(t1 t2 t3:Int)(w:World)(a1:0≤t2)(a2:t2≤400000)(h1:0≤t3)(h2:t3≤5000)(s1:900≤x9)(s2:x9≤dL)(s3:dL≤1100):
  Calls prog 272 #[.agg #[x1,x2,x3,x4,x5,x6,x7,x8,x9,dL],.agg #[t1,t2,t3]] w (Kc (fI ⟨x1,x2,x3,x4,x5,x6,(x7,x8),(x9,dL)⟩ (t1,t2,t3)) w):=by
 obtain⟨r1,r2,HR⟩:∃r1 r2,Hid (rO t2 t3 (x9,dL)=(r1,r2)):=⟨_,_,U rfl⟩;have HE:Hid (fI ⟨x1,x2,x3,x4,x5,x6,(x7,x8),(x9,dL)⟩ (t1,t2,t3)=(r1,min r2 x2)):=by unfold fI;simp only[HR.o];first|exact U rfl|exact U trivial
 go_in;go_wp2_with fail;refine(asM _ _ _ _ _ _ _ _ _ _ _ _ _ _ a1 a2 h1 h2 s1 s2 s3).mono ?_;rintro e w1 ⟨he,hb1⟩;rw[HR.o]at he;subst he;have X0:Bx w.heap.size [x1,x2,x3,x4,x5,x6,x7,x8,x9,dL] w1:=uu;have X1:Bx (w.heap.size+2) [.int .i64 0,.int .i64 0] w1:=uu;have q0:=X0.lt;have q1:=X1.lt;have c0:=X0.cell;have c1:=X1.cell;have z1:=X1.free;clear X1 X0;have n0:¬w1.heap.size=w.heap.size:=ae;have n1:¬w.heap.size=w1.heap.size:=ae;have n2:¬w1.heap.size=w.heap.size+2:=ae;have n3:¬w.heap.size+2=w1.heap.size:=ae;go_wp2_with fail
 all_goals
  refine kE (v:=.agg #[r1,.int .i64 (min r2 x2)]) (by simp[results,results272,go_sem,c1,J9,q1];try omega) rfl ⟨Du,?_⟩;exact rf
theorem as9(x1 x2 x3 x4 x5 x6 x7 x8 x9 dL:Int)(y:Int)(w:World)(a1:1≤x2)(a2:x2≤400000)(b1:0≤x4)(b2:x4<x5)(b3:x5≤12000)(y1:0≤y)(y2:y≤x2):
  Calls prog 221 #[.agg #[x1,x2,x3,x4,x5,x6,x7,x8,x9,dL],y] w (Eg (gD ⟨x1,x2,x3,x4,x5,x6,(x7,x8),(x9,dL)⟩ y) w):=by
 have HE:Hid (gD ⟨x1,x2,x3,x4,x5,x6,(x7,x8),(x9,dL)⟩ y=x4+y*(x5-x4) / x2):=U rfl;have m1:0≤y*(x5-x4):=yR y1 ae;have m2:y*(x5-x4)≤400000*12000:=Hy ae ae ae ae;have HD:Hid (y*(x5-x4) / x2=(y*(x5-x4)).tdiv x2):=(agc m1).symm;have d0:(x2==0)=false:=bC;have w1:IntKind.i64.wrap (y*(x5-x4))=y*(x5-x4):=dE _ ae;have k1:0≤y*(x5-x4) / x2:=Uh m1 ae;have k2:y*(x5-x4) / x2≤4800000000:=Ug ae (by have:(4800000000:Int)*1≤4800000000*x2:=Zi a1 ae;omega);go_in;go_wp2
 go_quiet (fail)
 go_wp2;go_ret;refine⟨gW ?_,?_⟩
 ·exact Du
 ·exact rf
theorem aC.pnt_at{w:World}{a:Option Addr}{n:Nat}{xs:List dF}(h:aC Shape.pnt w (.slice a n c) xs)(hk:k<xs.length):
  ∃b o,a=some ⟨b,o,none⟩∧w.cell? ⟨b,o+k*3,none⟩=some (.int .i64 xs[k].1)∧w.cell? ⟨b,o+k*3+1,none⟩=some (.int .i64 xs[k].2.1)∧w.cell? ⟨b,o+k*3+2,none⟩=some (.int .i64 xs[k].2.2):=by
 obtain⟨b,o,e,h1⟩:=h.atP NT hk;have hn:Shape.pnt.n=3:=rfl;rw[hn]at h1;exact⟨b,o,e,h1 0 ae,h1 1 ae,h1 2 ae⟩
theorem ax7{l:List dF}(h:k<l.length):mF l k=l[k]:=by simp[mF,bN,h]
theorem ano{l:List dF}(h:2000<l.length):qp l=(2,0):=by unfold qp;rw[if_pos h]
theorem ann{l:List dF}(hn:¬2000<l.length)(hk:k<l.length)(h0:∀j,j<k→vW (mF l j)=true)(h:vW (mF l k)=false):qp l=(11,(k:Int)):=by
 unfold qp;rw[if_neg hn,aaB hk (λj hj=>by simp[h0 j hj]) (by simp[h])];simp[h]
theorem aAG{l:List dF}(hn:¬2000<l.length)(h0:∀j,j<l.length→vW (mF l j)=true):qp l=(0,0):=by
 unfold qp;rw[if_neg hn,Kv.2 (λj hj=>by simp[h0 j hj])]
theorem Va(a b c:Int)(t:Bool)(w:World)(h:Hid (dw a b c=t)):Calls prog 216 #[a,b,c] w λe w'=>e=.returned (.bool t)∧w=w':=
 (aaE a b c w).mono λ_ _ ⟨h1,h2⟩=>⟨NY,h2⟩
theorem ath(v:Value)(l:List dF)(w:World)(hv:aC Shape.pnt w v l):Calls prog 269 #[v] w (UC (qp l) w):=by
 obtain⟨a,c,rfl,hc1,hc2⟩:=hv.shape;unfold maxLen at hc2;have HV:=U hv;clear hv;by_cases h32:2000<l.length
 ·have g1:decide (2000<l.length)=true:=adv;have g2:decide ((2000:Int)<(l.length:Int))=true:=bC;have HF:=U (ano h32);clear h32;go_in;go_wp2;go_ret2;exact⟨vY,aB _ _⟩
 have g1:decide (2000<l.length)=false:=adv;have g2:decide ((2000:Int)<(l.length:Int))=false:=bC;have HN:=U h32;have Vf:l.length≤2000:=ae;clear h32;go_in;go_wp2_with fail;clear g1 g2
 go_loopw [11] (λi wr=>∃k:Nat,k≤l.length∧i=.int .i64 k∧Hid (∀j,j<k→vW (mF l j)=true)∧BL w wr) (λi _=>l.length-(intOf i).toNat)
 case atStart=>exact⟨0,ae,rfl,U (λj h=>ae),aB _ _⟩
 case round=>
  obtain⟨k,hk,rfl,HA,hb⟩:=hrel;by_cases hlt:k<l.length
  ·obtain⟨b1,o1,e1,c1,c2,c3⟩:=(HV.o.below hb).pnt_at hlt;subst e1;have HE:=U (ax7 hlt);have hbw:=fe _ _ c1;dsimp only at hbw;generalize l[k]=t at *;obtain⟨x,y,z⟩:=t;simp only at c1 c2 c3;have i1:(0:Int)≤(k:Int):=ae;have i2:(k:Int)<l.length:=ae;obtain⟨t1,h1⟩:∃t,Hid (dw x 0 400000=t):=⟨_,rfl⟩;obtain⟨t2,h2⟩:∃t,Hid (dw y 0 400000=t):=⟨_,rfl⟩;obtain⟨t3,h3⟩:∃t,Hid (dw z 0 5000=t):=⟨_,rfl⟩
   have HP:Hid (vW (mF l k)=(t1&&t2&&t3)):=by
    rw[Hid,HE.o,←h1.o,←h2.o,←h3.o,DK];simp only[vW,dw,bW,dG];omega
   have JC:Hid ((t1&&t2&&t3)=false→qp l=(11,(k:Int))):=λh=>ann HN.o hlt HA.o (by rw[HP.o,h]);have B0:=U (Bl.alloc hb (.cells #[x,y,z] 115))
   have GO:Hid ((t1&&t2&&t3)=true→∀j,j<k+1→vW (mF l j)=true):=λh j hj=>by
    by_cases e:j=k
    ·subst e;rw[HP.o,h]
    ·exact HA.o j ae
   cases t1<;>cases t2<;>cases t3
   all_goals
    go_wp2_with (first|(go_at_call 216;with_reducible refine(Va _ _ _ _ _ h1).mono ?_;rintro e w' ⟨rfl,rfl⟩)|(go_at_call 216;with_reducible refine(Va _ _ _ _ _ h2).mono ?_;rintro e w' ⟨rfl,rfl⟩)|(go_at_call 216;with_reducible refine(Va _ _ _ _ _ h3).mono ?_;rintro e w' ⟨rfl,rfl⟩)|fail)
    first
     |(go_ret2
       exact⟨by rw[JC.o rfl];rfl,B0.o⟩)
     |(go_roundw
       case rel=>exact⟨k+1,ae,aY,U (GO.o rfl),B0.o⟩
       case measure=>simp[intOf];omega)
     |fail
  ·have HF:=U (aAG HN.o λj hj=>HA.o j ae);go_wp2;go_ret2;exact⟨vY,hb⟩
def K9(p:bU):Value:=.agg #[p.pitch,p.height,p.radius,p.low,p.high,p.cols,p.al.1,p.al.2,p.ac.1,p.ac.2]
def Gx(p:bU)(l:List dF):Int:=if fA p=true then(qp l).1 else 10
theorem aio(p:bU)(v:Value)(l:List dF)(w:World)(hv:aC Shape.pnt w v l):Calls prog 218 #[K9 p,v] w λe w'=>∃f,e=.returned (.tuple #[f,.int .i64 (Gx p l)])∧(fA p=true→f=.agg #[p.pitch,p.height,p.radius,p.low,p.high,p.cols,p.al.1,p.al.2,p.ac.1,p.ac.2])∧BL w w':=by
 obtain⟨a,c,rfl,hc1,hc2⟩:=hv.shape;have HV:=U hv;clear hv;unfold K9;obtain⟨te,HT⟩:∃t,Hid (qp l=t):=⟨_,U rfl⟩;obtain⟨t1,t2⟩:=te;by_cases hp:fA p=true
 ·have HE:Hid (Gx p l=t1):=by rw[Hid,Gx,aG hp,HT.o]
  have HC:=U (λw=>(aaz p w).mono λe w' h=>(⟨by rw[h.1,acA hp],h.2⟩:e=.returned (.int .i64 0)∧BL w w'));rw[HE.o];obtain⟨x1,x2,x3,x4,x5,x6,⟨x7,x8⟩,⟨x9,dL⟩⟩:=p;clear hp;go_in;go_wp2_with fail;refine(HC.o _).mono ?_;rintro e w1 ⟨rfl,hb1⟩;have eP:=U hb1;have X0:Bx w.heap.size [x1,x2,x3,x4,x5,x6,x7,x8,x9,dL] w1:=uu;have X1:Bx (w.heap.size+1) [.int .i64 0,.int .i64 0,.int .i64 0,.int .i64 0,.int .i64 0,.int .i64 0,.int .i64 0,.int .i64 0,.int .i64 0,.int .i64 0] w1:=uu;have B1:BL w w1:=Ku;have HX0:=U X0;have aZ:=U X1;clear X0 X1 hb1;go_wp2_with fail;refine((ath _ l _ (HV.o.below B1)).mono λe w' h=>(⟨by rw[h.1,HT.o],h.2⟩:e=.returned (.tuple #[t1,t2])∧BL w1 w')).mono ?_;rintro e w2 ⟨rfl,hb2⟩;have X0:=HX0.o.next hb2;have X1:=aZ.o.next hb2;have B2:=U (Bl.call B1 hb2);have c0:=X0.cell;have c1:=X1.cell;have z1:=X1.free;have q0:=X0.lt;have q1:=X1.lt;clear X0 X1 HX0 aZ hb2 B1 eP;go_wp2;refine kE (v:=.tuple #[.agg #[x1,x2,x3,x4,x5,x6,x7,x8,x9,dL],t1]) azV rfl ⟨_,rfl,λ_=>rfl,?_⟩;have B2:=B2.o;exact ul
 ·have HE:Hid (Gx p l=10):=by rw[Hid,Gx,aD hp]
  have HC:=U (λw=>(aaz p w).mono λe w' h=>(⟨by rw[h.1,acz hp],h.2⟩:e=.returned (.int .i64 10)∧BL w w'));have HP:=U hp;rw[HE.o];obtain⟨x1,x2,x3,x4,x5,x6,⟨x7,x8⟩,⟨x9,dL⟩⟩:=p;clear hp;go_in;go_wp2_with fail;refine(HC.o _).mono ?_;rintro e w1 ⟨rfl,hb1⟩;have X1:Bx (w.heap.size+1) [.int .i64 0,.int .i64 0,.int .i64 0,.int .i64 0,.int .i64 0,.int .i64 0,.int .i64 0,.int .i64 0,.int .i64 0,.int .i64 0] w1:=uu;have B1:BL w w1:=Ku;have c1:=X1.cell;have z1:=X1.free;have q1:=X1.lt;clear X1 hb1;go_wp2;refine kE (v:=.tuple #[.agg #[.int .i64 0,.int .i64 0,.int .i64 0,.int .i64 0,.int .i64 0,.int .i64 0,.int .i64 0,.int .i64 0,.int .i64 0,.int .i64 0],.int .i64 10]) azV rfl ⟨_,rfl,λh=>absurd h HP.o,?_⟩;exact ul
theorem aks:(prog.info? 82).map (λi=>(i.zero,i.size,i.bytes))=some (some (.agg #[.int .i64 0,.int .i64 0,.int .i64 0]),3,24):=aF
theorem aad(v:Value)(xs:List (Int×Sp))(w:World)(hv:aC Shape.trip w v xs)(hl:xs.length≤1000000000):
  Calls prog 159 #[v] w (Kb 82 3 xs.length (xs.flatMap (λp:Int×Sp=>[Value.int .i64 p.1,Value.int .i64 p.2.1,Value.int .i64 p.2.2])) w):=by
 obtain⟨a,c,rfl,hc1,hc2⟩:=hv.shape;obtain⟨i0,hi,hz0,hz1,hz2⟩:=dY aks;rcases a with _|ad
 ·have h0:xs=[]:=by
   rcases pJ xs.length with h|h
   ·exact jo h
   ·obtain⟨b,o,cs,e,_⟩:=hv.at h;cases e
  subst h0;have vM:=λ(w:World) (a:Option Addr) (n c n' c':Nat)=>vH (P:=prog) w 77 82 a n c n' c' underlying77;go_in;go_wp2;go_ret;exact⟨_,rfl,by simpa using nJ w w.heap.size 82 3,aB _ _⟩
 ·have hnews:Hid (∀W,BL w W→∀j u,(xs.flatMap (λp:Int×Sp=>[Value.int .i64 p.1,Value.int .i64 p.2.1,Value.int .i64 p.2.2]))[j]?=some u→W.cell? (ad.add j)=some u):=U (by
   intro W hW j u hj;rcases pJ xs.length with h|h
   ·exact aFx
   ·obtain⟨b,o,cs,e,_⟩:=hv.at h;cases e
    exact I1 jC aW (hv.below hW) j u hj)
  have hnl:(xs.flatMap (λp:Int×Sp=>[Value.int .i64 p.1,Value.int .i64 p.2.1,Value.int .i64 p.2.2])).length=xs.length*3:=by
   clear hv hnews hc1 hl
   induction xs with
   |nil=>rfl
   |cons x xs ih=>simp only[jN,dn,dS,ih,fU];omega
  have hone:∀u∈xs.flatMap (λp:Int×Sp=>[Value.int .i64 p.1,Value.int .i64 p.2.1,Value.int .i64 p.2.2]),u.oneCell'=true:=by
   intro u hu;obtain⟨x,_,hx⟩:=iB.1 hu;simp at hx;rcases hx with rfl|rfl|rfl<;>rfl
  have HL:=U hnl;have HO:=U hone;generalize xs.flatMap (λp:Int×Sp=>[Value.int .i64 p.1,Value.int .i64 p.2.1,Value.int .i64 p.2.2])=news at *;clear hnl hone hv;have vM:=λ(w:World) (a:Option Addr) (n c n' c':Nat)=>vH (P:=prog) w 77 82 a n c n' c' underlying77;go_in;go_wp2_with (at_builtin;refine mH _ rfl _ _ 77 rfl w.heap.size 82 i0 (.agg #[.int .i64 0,.int .i64 0,.int .i64 0]) 3 24 underlying77 hi hz0 hz1 hz2 rfl aW _ _ _ rfl (F7 w #[] 0 (aV _) qN rfl) ad xs.length c news rfl HL.o (hnews.o _ (Bl.alloc (aB _ _) _)) HO.o wh ae aj ?_;intro v' w4 hown' hgrow _)
  have hb4:=gJ (Bl.alloc (aB w.heap.size w) _) hgrow aj (λj hj=>Gf);go_ret;exact⟨_,rfl,Og,hb4⟩
end
end Go.Proofs.YtfmckbjeofiegaaGreat
