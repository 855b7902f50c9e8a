/- Part 15 of a proof. -/
import Derived.Test.YtfmckbjeofiegaaGreatA8
import Derived.Test.YtfmckbjeofiegaaGreatA9
import Derived.Test.YtfmckbjeofiegaaGreatA10
import Derived.Test.YtfmckbjeofiegaaGreatA11
set_option maxRecDepth 100000
set_option maxHeartbeats 16000000
set_option linter.all false
open Go Go.RowKit Go.Proofs.Tryz
namespace Go.Proofs.YtfmckbjeofiegaaGreat
variable {cs:List Value}{P:Program}{α:Type}{e:TypeId}{W:World}
section
attribute [local go_sem] Qv
theorem arX(a b:Option Addr)(n1 c1 n2 c2:Nat)(w:World):Calls prog 243 #[.slice a n1 c1,.slice b n2 c2] w λe w'=>e=.returned (.func (.func 290) #[] #[.pointer (some ⟨w.heap.size,0,none⟩),.pointer (some ⟨w.heap.size+1,0,none⟩)])∧BL w w'∧Bx w.heap.size [.slice a n1 c1] w'∧Bx (w.heap.size+1) [.slice b n2 c2] w':=by
 go_in;go_wp2;go_ret;exact⟨rfl,Bl.alloc (Bl.alloc (aB _ _) _) _,(Bx.new (vs:=[.slice a n1 c1]) rfl).alloc _,Bx.new (vs:=[.slice b n2 c2]) aj⟩
theorem akA(a b:List Sp)(ha:bF a)(hb:bF b):(inter a b).length≤a.length+b.length:=by
 rw[←ahI ha hb]
 have:∀(f:Nat) (a b:List Sp),(rA f a b).length≤f:=by
  intro f
  induction f with
  |zero=>intro a b;simp[rA]
  |succ f ih=>
   intro a b
   cases a with
   |nil=>simp[rA]
   |cons x xs=>
    cases b with
    |nil=>simp[rA]
    |cons y ys=>
     unfold rA;rw[dn];have h1:=ih xs (y::ys);have h2:=ih (x::xs) ys;split<;>split<;>simp<;>omega
 exact this _ a b
theorem adH(va vb:Value)(A B:List Sp)(w:World)(hA:aC Shape.span w va A)(hB:aC Shape.span w vb B)(nA:bF A)(nB:bF B)(bA:∀s∈A,-1000000≤s.1∧s.2≤1000000)(hl:A.length+B.length≤1000000000000):
  Calls prog 178 #[va,vb] w λe w'=>∃v,e=.returned v∧bG w.heap.size w' v (inter A B)∧BL w w':=by
 obtain⟨a,c,rfl,hc1,hc2⟩:=hA.shape;obtain⟨a',c',rfl,hd1,hd2⟩:=hB.shape;have HA:=U hA;have HB:=U hB;have HI:=U (ahI nA nB);have HL:=U (akA A B nA nB);have kN:=U bA;clear hA hB nA nB bA;go_in;go_wp2_with fail;refine(arX _ _ _ _ _ _ _).mono ?_;rintro e w1 ⟨rfl,hb1,x0,x1⟩
 have hlt:∀k,(gZ w.heap.size (.slice a A.length c) k∨gZ (w.heap.size+1) (.slice a' B.length c') k)→k<w1.heap.size:=by
  rintro j ((h|⟨a,n,c,e,h0,h⟩)|(h|⟨a,n,c,e,h0,h⟩))
  ·rw[h];exact x0.lt
  ·cases e;obtain⟨b',o',cs,e',hb',_⟩:=(HA.o.below hb1).at h0;cases e';rw[h];exact hb'
  ·rw[h];exact x1.lt
  ·cases e;obtain⟨b',o',cs,e',hb',_⟩:=(HB.o.below hb1).at h0;cases e';rw[h];exact hb'
 have SO:=U (ahF 290 #[.pointer (some ⟨w.heap.size,0,none⟩),.pointer (some ⟨w.heap.size+1,0,none⟩)] (kU A B) (A.length+B.length) _ w1 hl (by rw[HI.o];exact HL.o) hlt (fo func290 aF rfl) (arY w.heap.size (w.heap.size+1) _ _ _ A B w1 x0 x1 (HA.o.below hb1) (HB.o.below hb1) kN.o));rw[HI.o]at SO;clear hlt x0 x1;go_wp2_with fail;refine SO.o.mono ?_;rintro e w2 ⟨v,rfl,hO,hb2⟩;go_wp2;go_ret;exact⟨_,rfl,kJ hO hb1.size,Bl.call hb1 hb2⟩
theorem aAF(v:Value)(l:List Sp)(d1 d2:Int)(w:World)(hv:aC Shape.span w v l)(hn:l.length≤1000000000000)(hb:∀s∈l,-10000000≤s.1∧s.2≤10000000∧s.1≤s.2)(hd:-10000000≤d1∧d1≤10000000∧-10000000≤d2∧d2≤10000000):
  Calls prog 288 #[v,.agg #[d1,d2]] w λe w'=>∃u,e=.returned u∧bG w.heap.size w' u (grow l (d1,d2))∧BL w w':=by
 obtain⟨a,cp,rfl,hc1,hc2⟩:=hv.shape;unfold maxLen at hc2;have HV:=U hv;clear hv;have HB:=U hb;clear hb;obtain⟨i0,hi,hz0,hz1,hz2⟩:=dY zu;go_in;go_wp2_with fail;have HD0:Hid (Bx w.heap.size [d1,d2] (w.alloc (.cells #[d1,d2] 41))):=U (Bx.new rfl);have hb0:BL w (w.alloc (.cells #[d1,d2] 41)):=Bl.alloc (aB _ _) _;have hs0:(w.alloc (.cells #[d1,d2] 41)).heap.size=w.heap.size+1:=aj;generalize w.alloc (.cells #[d1,d2] 41)=w0 at *
 go_loopw [5,10] (λs5 s10 wr=>∃k:Nat,k≤l.length∧s10=.int .i64 k∧Hid (bG w0.heap.size wr s5 (grow (l.take k) (d1,d2)))∧BL w0 wr) (λ_ s10 _=>l.length-(intOf s10).toNat)
 case atStart=>exact⟨0,ae,rfl,U (yC (by simp[grow])),aB _ _⟩
 case round=>
  obtain⟨k,hk,rfl,HO,hb⟩:=hrel;obtain⟨a5,c5,rfl⟩:=bv HO.o;by_cases hlt:k<l.length
  ·have HS:=HB.o l[k] (eu hlt);have HT:Hid (grow (l.take (k+1)) (d1,d2)=grow (l.take k) (d1,d2)++[(l[k].1+d1,l[k].2+d2)]):=U (by rw[grow,WX _ hlt];rfl);have XD:=HD0.o.next hb;have q0:=XD.cell 0;have q1:=XD.cell 1;simp only[aK,bB]at q0 q1;have ql:=XD.lt;clear XD;obtain⟨b,o,rfl,c1,c2⟩:=(HV.o.below (Bl.call hb0 hb)).span_at hlt;generalize l[k]=x at *;obtain⟨x1,x2⟩:=x;simp only at c1 c2 HS HT;have hlen:(grow (l.take k) (d1,d2)).length≤1000000000000:=by simp[grow];omega
   generalize grow (l.take k) (d1,d2)=M at *;have i1:(0:Int)≤(k:Int):=ae;have i2:(k:Int)<l.length:=ae;have w1:IntKind.i64.wrap (x1+d1)=x1+d1:=dE _ ae;have w2:IntKind.i64.wrap (x2+d2)=x2+d2:=dE _ ae;have hsz:=hb.size;have n1:¬w.heap.size=wr.heap.size:=ae;have n2:¬wr.heap.size=w.heap.size:=ae;have bL:=U (fq HO.o (Bl.alloc (aB wr.heap.size wr) (.cells #[x1,x2] 41)));have hb2:=Bl.alloc hb (.cells #[x1,x2] 41);go_wp2_with (at_builtin;go_loud (refine iE (hnews:=UX aj _ _) (bL.o.alloc _) ⟨wr.heap.size+1,0,none⟩ 1 1 [.int .i64 (x1+d1),.int .i64 (x2+d2)] hi hz0 hz1 hz2 ?_);intro v' w4 hown' hgrow bY)
   have fu:=U (wW hown' rfl);have hb4:=MK bL.o hgrow hb2 (aV _);clear hown' hgrow bY;go_roundw
   case rel=>exact⟨k+1,ae,aY,RX,hb4⟩
   case measure=>exact aFF
  ·have hkk:k=l.length:=ae;go_wp2;go_ret;refine⟨_,rfl,?_,Bl.call hb0 hb⟩;have:=HO.o;rw[hkk,jc]at this ⊢;exact kJ this ae
theorem anJ(va vb:Value)(a b:List Sp)(w:World)(hva:aC Shape.span w va a)(hvb:aC Shape.span w vb b)(hl:a.length*b.length≤1000000000000):
  Calls prog 83 #[va,vb] w λe w'=>∃v,e=.returned v∧bG w.heap.size w' v (inter a b)∧BL w w':=by
 obtain⟨qa,ca,rfl,hca,VF⟩:=hva.shape;obtain⟨qb,cb,rfl,hcb,QY⟩:=hvb.shape;unfold maxLen at VF QY;have HA:=U hva;have HV:=U hvb;clear hva hvb;have HL:=U hl;clear hl;obtain⟨i0,hi,hz0,hz1,hz2⟩:=dY zu;go_in;go_wp2
 go_loopw [5,13] (λou iv wr=>∃(k:Nat) (out:List Sp),k≤a.length∧iv=.int .i64 k∧Hid (out=inter (a.take k) b)∧Hid (bG w.heap.size wr ou out)∧BL w wr) (λ_ iv _=>a.length-(intOf iv).toNat)
 case atStart=>exact⟨0,[],ae,rfl,U (by simp[inter]),U (yC rfl),aB _ _⟩
 case round=>
  obtain⟨k,out,hk,rfl,HE,HO,hb⟩:=hrel;obtain⟨a5,c5,rfl⟩:=bv HO.o;by_cases hlt:k<a.length
  ·obtain⟨q1,o1,e1,c1,c2⟩:=(HA.o.below hb).span_at hlt;have HEk:Hid (inter (a.take (k+1)) b=out++uK a[k] b b.length):=by rw[awg hlt,HE.o];exact U rfl
   have hol:out.length≤k*b.length:=by
    rw[HE.o];have:=awd (a.take k) b
    rwa[oF,ags hk]at this
   have hkl:(k+1)*b.length≤1000000000000:=fK (P7 _ hlt) HL.o;rw[Aw]at hkl;have au1:out.length+b.length≤1000000000000:=ae;clear HE hol hkl;generalize a[k]=s at *;obtain⟨s0,s1⟩:=s;simp only at c1 c2;subst e1;have i1:(0:Int)≤(k:Int):=ae;have i2:(k:Int)<a.length:=ae;obtain⟨S,hS⟩:∃S,S=wr.heap.size:=⟨_,rfl⟩;have za:=U (Bx.new (W:=wr) (B:=S) (t:=41) (vs:=[.int .i64 s0,.int .i64 s1]) hS.symm);have vD:Hid (∀q,(Value.slice a5 out.length c5).ownBlock=some q→q≠S):=U (λq hq=>aji);have xK:=U (fq HO.o (Bl.alloc (aB wr.heap.size wr) (.cells #[s0,s1] 41)));have hbS:=Bl.alloc hb (.cells #[s0,s1] 41);go_wp2;rw[←hS];clear c1 c2 HO hb
   go_loopw [5,19] (λou jv wi=>∃(m:Nat),m≤b.length∧jv=.int .i64 m∧Hid (bG w.heap.size wi ou (out++uK (s0,s1) b m))∧BL w wi∧Hid (Bx S [s0,s1] wi)∧Hid (∀q,ou.ownBlock=some q→q≠S)) (λ_ jv _=>b.length-(intOf jv).toNat)
   case atStart=>exact⟨0,ae,rfl,by simpa[uK]using xK,hbS,za,vD⟩
   case round=>
    clear xK za vD hbS hS;obtain⟨m,hm,rfl,HO,hb,XS,HN⟩:=hrel;by_cases hlm:m<b.length
    ·obtain⟨q2,o2,e2,d1,d2⟩:=(HV.o.below hb).span_at hlm;have HY:=U (av9 (s:=(s0,s1)) hlm);have Pb:=U (av8 (s:=(s0,s1)) hlm);have hrl:=av7 (s0,s1) b m;generalize b[m]=t at *;obtain⟨t0,t1⟩:=t;simp only at d1 d2 HY Pb;subst e2;have i3:(0:Int)≤(m:Int):=ae;have i4:(m:Int)<b.length:=ae;have q0:=XS.o.cell 0;have q3:=XS.o.cell 1;have ql:=XS.o.lt;simp only[aK,bB]at q0 q3;obtain⟨X,e1⟩:∃X,max s0 t0=X:=⟨_,rfl⟩;obtain⟨Y,e2⟩:∃Y,min s1 t1=Y:=⟨_,rfl⟩;rw[e1,e2]at HY Pb;obtain⟨a6,c6,rfl⟩:=bv HO.o;have hlen:(out++uK (s0,s1) b m).length≤1000000000000:=amj;have hsz:=hb.size;have n1:¬S=wr.heap.size:=ae;have n2:¬wr.heap.size=S:=ae;have hbl:BL wr ((wr.alloc (.cells #[t0,t1] 41)).alloc (.cells #[X,Y] 41)):=Bl.alloc (Bl.alloc (aB _ _) _) _;have hb2:BL w ((wr.alloc (.cells #[t0,t1] 41)).alloc (.cells #[X,Y] 41)):=Bl.alloc (Bl.alloc hb _) _;have bL:=U (fq HO.o hbl);have Ie:=U (XS.o.next hbl);by_cases Gp:X≤Y
     ·have HT:Hid (out++uK (s0,s1) b (m+1)=(out++uK (s0,s1) b m)++[(X,Y)]):=U (by rw[HY.o Gp,yS]);have dXY:decide (X≤Y)=true:=by simpa using Gp
      clear HY Pb Gp;generalize out++uK (s0,s1) b m=M at *;go_wp2_with (at_builtin;go_loud (refine iE (hnews:=UX aj _ _) (bL.o.alloc _) ⟨wr.heap.size+1+1,0,none⟩ 1 1 [X,Y] hi hz0 hz1 hz2 ?_);intro v' w4 hown' hgrow bY)
      have fu:=U (wW hown' rfl);have hb4:=MK bL.o hgrow hb2 (aV _);have Gb:=U ((Ie.o.alloc _).grown hgrow (λe=>HN.o S e.symm rfl))
      have YA:Hid (∀q,v'.ownBlock=some q→q≠S):=U (λq hq=>by
       rcases bY with e|⟨k',e,hle⟩
       ·exact HN.o q (e ▸ hq)
       ·rw[hq]at e;cases e;simp at hle;omega)
      clear hown' hgrow bY;go_roundw
      case rel=>exact⟨m+1,ae,aY,RX,hb4,Gb,YA⟩
      case measure=>exact aFF
     ·have HT:=U (Pb.o ae);have dXY:decide (X≤Y)=false:=by simpa using Gp
      clear HY Pb Gp;go_wp2;go_roundw
      case rel=>exact⟨m+1,ae,aY,by rw[HT.o];exact bL,hb2,Ie,HN⟩
      case measure=>exact aFF
    ·have hmm:m=b.length:=ae;go_wp2;go_roundw
     case rel=>exact⟨k+1,_,ae,aY,U HEk.o.symm,by rw[hmm]at HO;exact HO,hb⟩
     case measure=>exact aFF
  ·have hkk:k=a.length:=ae;go_wp2;go_ret;refine⟨_,rfl,?_,hb⟩;have hout:out=inter a b:=HE.o.trans (by rw[hkk,jc]);rw[←hout];exact HO.o
theorem avT:(prog.info? 85).map (λi=>(i.zero,i.size,i.bytes))=some (some (.agg #[.int .i64 0,.int .i64 0,.int .i64 0,.slice none 0 0]),4,48):=aF
theorem ark{d:List Value}{x:iC}(h:(Shape.sta).reads (λ_=>True) W d x):∀u∈d,u.oneCell'=true:=by
 obtain⟨v,rfl,hv⟩:=BD.1 h;obtain⟨b,d,rfl,_,_⟩:=(show aC Shape.trip W v x.2.2.2 from Shape.list_far hv).shape;intro z hz;simp at hz;rcases hz with rfl|rfl|rfl|rfl<;>rfl
theorem arL(v:Value)(xs:List (iC))(w:World)(A:Nat→Prop)(hv:(Shape.sta).list.reads A w [v] xs)(hl:xs.length≤1000000000):
  Calls prog 155 #[v] w λe w'=>∃v',e=.returned v'∧Own (Shape.sta) (λq=>A q∧q<w.heap.size) w' w.heap.size 85 v' xs∧BL w w':=by
 obtain⟨a,c,rfl,hc1,hc2⟩:=(Shape.list_far hv).shape;obtain⟨i0,hi,hz0,hz1,hz2⟩:=dY avT;have vM:=λ(w:World) (a:Option Addr) (n c n' c':Nat)=>vH (P:=prog) w 22 85 a n c n' c' underlying22;rcases a with _|ad
 ·have h0:xs=[]:=by
   rcases pJ xs.length with h|h
   ·exact jo h
   ·obtain⟨b,o,cs,e,_⟩:=Shape.list_at hv h;cases e
  subst h0;go_in;go_wp2;go_ret;exact⟨_,rfl,Own.nil,aB _ _⟩
 ·obtain⟨css,hcl,hcn,hcr,hcc⟩:=Shape.raw aW hv
  have HC:=U (λW (hW:BL w W) (j:Nat) (u:Value) (hj:css.flatten[j]?=some u)=>(hW.cell (p:=ad.add j) (by
   have:=hcc j u hj
   exact lt_of_cell this)).trans (hcc j u hj))
  have HL:Hid (css.flatten.length=xs.length*4):=U (by
   rw[←hcl];clear hcr hcc HC hcl
   induction css with
   |nil=>rfl
   |cons d css ih=>
    have e1:d.length=4:=hcn d aj
    rw[J6,dn,ih (λx hx=>hcn x (Cv _ hx)),dS,e1];omega)
  have HO:Hid (∀u∈css.flatten,u.oneCell'=true):=U (λu hu=>by
   obtain⟨d,hd,hu⟩:=Uq.1 hu;obtain⟨k,hk,rfl⟩:=mr hd
   exact ark ((Shape.sta).mono (hcr k ae hk) λ_ _ _=>trivial) u hu)
  have HR:=U hcr;have Ab:=U hcl;clear hcc hcn hcr hcl;generalize hnews:css.flatten=news at *;have HN:=U hnews;clear hnews hv;go_in;go_wp2_with (at_builtin;refine mH _ rfl _ _ 22 rfl w.heap.size 85 i0 (.agg #[.int .i64 0,.int .i64 0,.int .i64 0,.slice none 0 0]) 4 48 underlying22 hi hz0 hz1 hz2 rfl aW _ _ _ rfl (F7 w #[] 0 (aV _) qN rfl) ad xs.length c news rfl HL.o (HC.o _ (Bl.alloc (aB _ _) _)) HO.o wh ae aj ?_;intro v' w4 hown' hgrow _)
  have hb4:=gJ (Bl.alloc (aB w.heap.size w) _) hgrow aj (λj hj=>Gf);go_ret;refine⟨_,rfl,⟨css,Ab.o,by rw[HN.o];have:=hown';simp only[oJ,fE]at this;exact this,λk hk g=>?_⟩,hb4⟩;have h1:=(Shape.sta).mono (A':=λq=>A q∧q<w.heap.size) (HR.o k hk g) λq hq h=>⟨h,hq⟩;have h2:=(Shape.sta).keep h1 (w':=w4) ⟨hb4.size,λq hq hl=>hb4.block q hl⟩;refine(Shape.sta).mono h2 λq hq ho=>⟨ho,λe=>?_⟩;have:=(hown'.lt q e.symm).1;have:=ho.2;omega
end
def bO{H:Type}(enc:TypeId×Value→H)(W:World)(t:TypeId)(R:List Value→Prop):Prop:=∀base spare held fuel cs x,DataW.trod enc prog W base spare held fuel t cs=some x→R cs
def fQ(cs:List Value):Prop:=∃n:Int,cs=[.int .i64 n]
def rX:List (List Value→Prop)→List Value→Prop
 |[],cs=>cs=[]
 |R::Rs,cs=>∃c d,cs=c++d∧R c∧rX Rs d
def MV(P:Program)(total:Nat):Nat→List Field→Bool
 |n,[]=>n==total
 |n,f::fs=>f.offset==n&&MV P total (n+P.cellsOf f.type) fs
section
variable {H:Type} {enc:TypeId×Value→H} {W:World} {t:TypeId}
def ZB(enc:TypeId×Value→H)(W:World):List Field→List (List Value→Prop)→Prop
 |[],[]=>True
 |f::fs,R::Rs=>bO enc W f.type R∧ZB enc W fs Rs
 |_,_=>False
theorem bO.int(ht:prog.underlying t=some (.int .i64)):bO enc W t fQ:=by
 intro base spare held fuel cs x h;obtain⟨n,e,_⟩:=DataW.trod_int ht h;exact⟨n,e⟩
theorem bO.mono{R R':List Value→Prop}(h:bO enc W t R)(k:∀cs,R cs→R' cs):bO enc W t R':=λbase spare held fuel cs x e=>k _ (h base spare held fuel cs x e)
theorem aho{total:Nat}(hcs:cs.length=total):∀(l:List Field) (Rs:List (List Value→Prop)) (off:Nat),MV P total off l=true→ZB enc W l Rs→
  (∀f R,bO enc W f.type R→f∈l→R ((cs.drop f.offset).take (P.cellsOf f.type)))→rX Rs (cs.drop off)
 |[],[],off,hc,_,_=>by
  have:off=total:=by simpa[MV]using hc
  show cs.drop off=[]
  rw[this,←hcs,Zn]
 |[],_::_,_,_,h,_=>h.elim
 |_::_,[],_,_,h,_=>h.elim
 |f::l,R::Rs,off,hc,h,hg=>by
  simp only[MV,bW,beq_iff_eq]at hc;refine⟨(cs.drop off).take (P.cellsOf f.type),cs.drop (off+P.cellsOf f.type),?_,?_,aho hcs l Rs _ hc.2 h.2 (λg R' hR hm=>hg g R' hR (Cv _ hm))⟩
  ·rw[←List.drop_drop,Zw]
  ·have:=hg f R h.1 aj
   rwa[hc.1]at this
theorem bO.struct{fs:Array Field}{Rs:List (List Value→Prop)}(ht:prog.underlying t=some (.struct fs))(hc:MV prog (prog.cellsOf t) 0 fs.toList=true)(hR:ZB enc W fs.toList Rs):bO enc W t (rX Rs):=by
 intro base spare held fuel cs x h;obtain⟨xs,n,_,_,hl,hlen,hg⟩:=DataW.trod_struct ht h
 have:=aho (P:=prog) hl fs.toList Rs 0 hc hR (λf R hR hm=>by
  obtain⟨i,hi,rfl⟩:=mr hm;rw[Array.length_toList]at hi;have h1:=hg i fs[i] (Array.getElem?_eq_getElem hi);rw[di ae]at h1;rw[aef]
  exact hR base spare held n _ _ h1)
 rwa[age]at this
theorem bO.list{s:Shape α}(ht:prog.underlying t=some (.slice e))(hs:prog.cellsOf e=s.n)(h0:0<s.n)(he:bO enc W e λcs=>∃a,s.reads (λ_=>True) W cs a):bO enc W t λcs=>∃v xs,cs=[v]∧aC s W v xs:=by
 intro base spare held fuel cs x h;rcases DataW.trod_slice ht h with⟨rfl,_⟩|⟨a,len,cap,elems,rest,n,_,rfl,_,_,hl,hm,hlen,hel,_⟩
 ·exact⟨_,[],rfl,aC.nil⟩
 ·have key:∀i,i<len→∃(y:α) (cs':List Value),s.reads (λ_=>True) W cs' y∧∀j,j<s.n→W.cell? ((a.add (i*s.n)).add j)=cs'[j]?:=by
   intro i hi;have h1:=hel i hi;rw[di ae,Option.bind_eq_some_iff,hs]at h1;obtain⟨cs',h2,h3⟩:=h1;obtain⟨y,hy⟩:=he base spare held n cs' _ h3;exact⟨y,cs',hy,(World.cells?_some h2).2.2⟩
  refine⟨_,List.ofFn (n:=len) λi=>Classical.choose (key i.1 i.2),rfl,some a,cap,?_,by rw[Zt];exact hl,hm,λhp=>?_⟩
  ·rw[Zt]
  ·rw[Zt]at hp;obtain⟨y,cs',h1,h2⟩:=key 0 hp;have h3:=h2 0 h0;rw[di (by rw[s.len h1];exact h0)]at h3;have h4:=World.cell?_spot h3;have h5:=fe _ _ h3;obtain⟨b,o,sp⟩:=a
   have hsp:sp=none:=by
    cases sp with
    |none=>rfl
    |some q=>exact absurd h4 (by simp[Addr.add])
   subst hsp;simp only[JB]at h5;refine⟨b,o,rfl,h5,trivial,λk hk=>?_⟩;have hk':k<len:=by rwa[Zt]at hk
   obtain⟨cs2,g1,g2⟩:=Classical.choose_spec (key k hk');refine⟨cs2,by rw[List.getElem_ofFn];exact g1,λj hj=>?_⟩;have:=g2 j hj;simpa only[JB]using this
theorem NQ:bO enc W 41 λcs=>∃a,Shape.span.reads (λ_=>True) W cs a:=
 (bO.struct (Rs:=[fQ,fQ]) underlying41 aF ⟨bO.int underlying3,bO.int underlying3,trivial⟩).mono λcs h=>by
  simp only[rX,fQ]at h;obtain⟨_,_,rfl,⟨a,rfl⟩,_,_,rfl,⟨b,rfl⟩,rfl⟩:=h;exact⟨(a,b),_,_,rfl,rfl,rfl⟩
theorem alz:bO enc W 49 λcs=>∃a,Shape.span.reads (λ_=>True) W cs a:=
 (bO.struct (Rs:=[fQ,fQ]) underlying49 aF ⟨bO.int underlying3,bO.int underlying3,trivial⟩).mono λcs h=>by
  simp only[rX,fQ]at h;obtain⟨_,_,rfl,⟨a,rfl⟩,_,_,rfl,⟨b,rfl⟩,rfl⟩:=h;exact⟨(a,b),_,_,rfl,rfl,rfl⟩
theorem axI:bO enc W 115 λcs=>∃a,Shape.pnt.reads (λ_=>True) W cs a:=
 (bO.struct (Rs:=[fQ,fQ,fQ]) underlying115 aF ⟨bO.int underlying3,bO.int underlying3,bO.int underlying3,trivial⟩).mono λcs h=>by
  simp only[rX,fQ]at h;obtain⟨_,_,rfl,⟨a,rfl⟩,_,_,rfl,⟨b,rfl⟩,_,_,rfl,⟨c,rfl⟩,rfl⟩:=h;exact⟨(a,b,c),NT.2 rfl⟩
theorem Wh{t:TypeId}{f0 f1:Field}(ht:prog.underlying t=some (.struct #[f0,f1]))(h0:f0.type=3)(h1:f1.type=41)(hc:MV prog (prog.cellsOf t) 0 [f0,f1]=true):bO enc W t λcs=>∃a,Shape.trip.reads (λ_=>True) W cs a:=
 (bO.struct (Rs:=[fQ,λcs=>∃a,Shape.span.reads (λ_=>True) W cs a]) ht hc ⟨by rw[h0];exact bO.int underlying3,by rw[h1];exact NQ,trivial⟩).mono λcs h=>by
  simp only[rX,fQ]at h;obtain⟨_,_,rfl,⟨a,rfl⟩,_,_,rfl,⟨b,hb⟩,rfl⟩:=h;rw[ow];exact⟨(a,b),_,_,rfl,rfl,hb⟩
theorem axG:bO enc W 83 λcs=>∃v xs,cs=[v]∧aC Shape.trip W v xs:=bO.list underlying83 aF aW (Wh underlying117 rfl rfl aF)
theorem axK:bO enc W 85 λcs=>∃a,Shape.sta.reads (λ_=>True) W cs a:=
 (bO.struct (Rs:=[fQ,fQ,fQ,_]) underlying85 aF ⟨bO.int underlying3,bO.int underlying3,bO.int underlying3,axG,trivial⟩).mono λcs h=>by
  simp only[rX,fQ]at h;obtain⟨_,_,rfl,⟨a,rfl⟩,_,_,rfl,⟨b,rfl⟩,_,_,rfl,⟨c,rfl⟩,_,_,rfl,⟨v,xs,rfl,hl⟩,rfl⟩:=h;exact⟨(a,b,c,xs),BD.2 ⟨v,rfl,hl⟩⟩
theorem alA:bO enc W 43 λcs=>∃a,Shape.rdg.reads (λ_=>True) W cs a:=
 (bO.struct (Rs:=[fQ,fQ,fQ,λcs=>∃a,Shape.span.reads (λ_=>True) W cs a]) underlying43 aF ⟨bO.int underlying3,bO.int underlying3,bO.int underlying3,NQ,trivial⟩).mono λcs h=>by
  simp only[rX,fQ]at h;obtain⟨_,_,rfl,⟨a,rfl⟩,_,_,rfl,⟨b,rfl⟩,_,_,rfl,⟨c,rfl⟩,_,_,rfl,⟨s,hs⟩,rfl⟩:=h;rw[ow];exact⟨(a,b,c,s),_,_,rfl,rfl,_,_,rfl,rfl,_,_,rfl,rfl,hs⟩
theorem axH:bO enc W 51 λcs=>∃p,cs=uR p:=
 (bO.struct (Rs:=[fQ,fQ,fQ,fQ,fQ,fQ,λcs=>∃a,Shape.span.reads (λ_=>True) W cs a,λcs=>∃a,Shape.span.reads (λ_=>True) W cs a]) underlying51 aF
  ⟨bO.int underlying3,bO.int underlying3,bO.int underlying3,bO.int underlying3,bO.int underlying3,bO.int underlying3,NQ,NQ,trivial⟩).mono λcs h=>by
  simp only[rX,fQ]at h;obtain⟨_,_,rfl,⟨a,rfl⟩,_,_,rfl,⟨b,rfl⟩,_,_,rfl,⟨c,rfl⟩,_,_,rfl,⟨d,rfl⟩,_,_,rfl,⟨e,rfl⟩,_,_,rfl,⟨f,rfl⟩,_,_,rfl,⟨s,_,_,rfl,hs1,hs2⟩,_,_,rfl,⟨u,_,_,rfl,hu1,hu2⟩,rfl⟩:=h;cases hs1;cases hs2;cases hu1;cases hu2;exact⟨⟨a,b,c,d,e,f,s,u⟩,rfl⟩
theorem axJ:bO enc W 61 λcs=>∃s vt vb vr vs,cs=iq s vt vb vr vs∧nU (λ_=>True) W s vt vb vr vs:=
 (bO.struct (Rs:=[λcs=>∃p,cs=uR p,_,_,rX [_,_],rX [fQ,λcs=>∃a,Shape.span.reads (λ_=>True) W cs a,fQ]]) underlying61 aF
  ⟨axH,bO.list underlying52 aF aW axI,bO.list (s:=Shape.int) underlying53 aF aW ((bO.int underlying3).mono λcs h=>h),
   bO.struct underlying57 aF ⟨bO.list underlying54 aF aW NQ,bO.list underlying55 aF aW (Wh underlying283 rfl rfl aF),trivial⟩,
   bO.struct underlying59 aF ⟨bO.int underlying3,NQ,bO.int underlying3,trivial⟩,trivial⟩).mono λcs h=>by
  simp only[rX,fQ]at h;obtain⟨_,_,rfl,⟨p,rfl⟩,_,_,rfl,⟨vt,xt,rfl,ht⟩,_,_,rfl,⟨vb,xb,rfl,hb⟩,_,_,rfl,⟨_,_,rfl,⟨vr,xr,rfl,hr⟩,_,_,rfl,⟨vs,xs,rfl,hs⟩,rfl⟩,_,_,rfl,⟨_,_,rfl,⟨b,rfl⟩,_,_,rfl,⟨z,_,_,rfl,hz1,hz2⟩,_,_,rfl,⟨r,rfl⟩,rfl⟩,rfl⟩:=h;cases hz1;cases hz2;exact⟨⟨p,xt,xb,(xr,xs),b,z.1,z.2,r⟩,vt,vb,vr,vs,rfl,ht,hb,hr,hs⟩
theorem axF:bO enc W 65 λcs=>∃f,nW W f cs:=
 (bO.struct (Rs:=[λcs=>∃a,Shape.span.reads (λ_=>True) W cs a,fQ,fQ,_,_,_]) underlying65 aF
  ⟨alz,bO.int underlying3,bO.int underlying3,axJ,bO.list underlying62 aF aW (Wh underlying45 rfl rfl aF),bO.list underlying63 aF aW alz,trivial⟩).mono λcs h=>by
  simp only[rX,fQ]at h;obtain⟨_,_,rfl,⟨n,_,_,rfl,hn1,hn2⟩,_,_,rfl,⟨s,rfl⟩,_,_,rfl,⟨k,rfl⟩,_,_,rfl,⟨sh,vt,vb,vr,vs,rfl,hR⟩,_,_,rfl,⟨vm,xm,rfl,hm⟩,_,_,rfl,⟨vn,xn,rfl,hn⟩,rfl⟩:=h;cases hn1;cases hn2;exact⟨⟨n.1,n.2,s,k,sh,xm,xn⟩,vt,vb,vr,vs,vm,vn,rfl,hR,hm,hn⟩
theorem axL:bO enc W 30 λcs=>∃x,dM W x cs:=
 (bO.struct (Rs:=[rX [_,rX [fQ,fQ],fQ,fQ,fQ],fQ,_,_]) underlying30 aF
  ⟨bO.struct underlying26 aF ⟨bO.list underlying22 aF aW axK,bO.struct underlying24 aF ⟨bO.int underlying3,bO.int underlying3,trivial⟩,bO.int underlying3,bO.int underlying3,bO.int underlying3,trivial⟩,bO.int underlying3,bO.list underlying27 aF aW axF,bO.list underlying28 aF aW alA,trivial⟩).mono λcs h=>by
  simp only[rX,fQ]at h;obtain⟨_,_,rfl,⟨_,_,rfl,⟨va,xa,rfl,ha⟩,_,_,rfl,⟨_,_,rfl,⟨fx,rfl⟩,_,_,rfl,⟨ea,rfl⟩,rfl⟩,_,_,rfl,⟨tm,rfl⟩,_,_,rfl,⟨tk,rfl⟩,_,_,rfl,⟨cl,rfl⟩,rfl⟩,_,_,rfl,⟨wk,rfl⟩,_,_,rfl,⟨vs,xs,rfl,hs⟩,_,_,rfl,⟨vr,xr,rfl,hr⟩,rfl⟩:=h;exact⟨⟨xa,fx,ea,tm,tk,cl,wk,xs,xr⟩,va,vs,vr,rfl,ha,hs,hr⟩
end
end Go.Proofs.YtfmckbjeofiegaaGreat
