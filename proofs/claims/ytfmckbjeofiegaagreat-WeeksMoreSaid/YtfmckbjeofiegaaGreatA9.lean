/- Part 9 of a proof. -/
import Derived.Test.YtfmckbjeofiegaaGreatA7
set_option maxRecDepth 100000
set_option maxHeartbeats 16000000
set_option linter.all false
open Go Go.RowKit Go.Proofs.Tryz
namespace Go.Proofs.YtfmckbjeofiegaaGreat
variable {hi:Int}{l:List Sp}{c k:Nat}{α:Type}{u v:Value}
section
attribute [local go_sem] Qv
def SpB(l:List Sp):Prop:=∀s∈l,-1000000≤s.1∧s.1≤1000000∧-1000000≤s.2∧s.2≤1000000
def FP(l:List Sp):Prop:=∀s∈l,-1000000≤s.1∧s.2≤1000000
theorem FP.sp(h:FP l)(hv:∀s∈l,s.1≤s.2):SpB l:=λs hs=>by have:=h s hs;have:=hv s hs;omega
theorem FP.nil:FP []:=λs hs=>by simp at hs
theorem FP.mem(h:FP l){n:Int}(hn:Mem n l):-1000000≤n∧n≤1000000:=by
 obtain⟨s,hs,h1,h2⟩:=hn;have:=h s hs;omega
theorem alo:∀ {l:List Sp} {a b:Int},bF l→(∀s∈l,a≤s.1∧s.2≤b)→(l.length:Int)≤max 0 (b-a+1)
 |[],_,_,_,_=>by simp;omega
 |s::l,a,b,hn,h=>by
  obtain⟨h1,h2,h3⟩:=rH.1 hn;have hs:=h s aj;have:=alo (a:=s.2+2) (b:=b) h3 (λt ht=>⟨aa7,(h t GD).2⟩);simp only[dS];omega
theorem FP.take(h:FP l)(k:Nat):FP (l.take k):=λs hs=>h s (J8 hs)
end
theorem aw5{s:Sp}(hv:∀s∈l,s.1≤s.2)(hs:s∈l):Mem s.1 l:=⟨s,hs,ae,hv s hs⟩
theorem aw4{s:Sp}(hv:∀s∈l,s.1≤s.2)(hs:s∈l):Mem s.2 l:=⟨s,hs,hv s hs,ae⟩
theorem V9{lo:Int}(hv:∀s∈l,s.1≤s.2)(h:∀n,Mem n l→lo≤n∧n≤hi):∀s∈l,lo≤s.1∧s.2≤hi:=λs hs=>⟨(h _ (aw5 hv hs)).1,(h _ (aw4 hv hs)).2⟩
theorem ak9{lo n:Int}(h:∀s∈l,lo≤s.1∧s.2≤hi)(hn:Mem n l):lo≤n∧n≤hi:=by
 obtain⟨s,hs,h1,h2⟩:=hn;have:=h s hs;omega
structure ap9(t:aT):Prop where
 al:∀k n,∀s∈(aI (aN t k) n).1,-20000≤s.1∧s.2≤20000
 ed:∀k n,∀e∈(aI (aN t k) n).2,-20000≤e.2.1∧e.2.2≤20000
section
attribute [local go_sem] Qv
def uK(s:Sp)(b:List Sp)(m:Nat):List Sp:=((b.take m).map λt=>(max s.1 t.1,min s.2 t.2)).filter λu=>decide (u.1≤u.2)
theorem av9{s:Sp}{b:List Sp}{m:Nat}(h:m<b.length)(k:max s.1 b[m].1≤min s.2 b[m].2):uK s b (m+1)=uK s b m++[(max s.1 b[m].1,min s.2 b[m].2)]:=by
 unfold uK;rw[WX _ h,wS];simp[k]
theorem av8{s:Sp}{b:List Sp}{m:Nat}(h:m<b.length)(k:¬max s.1 b[m].1≤min s.2 b[m].2):uK s b (m+1)=uK s b m:=by
 unfold uK;rw[WX _ h,wS];simp[k]
theorem av7(s:Sp)(b:List Sp)(m:Nat):(uK s b m).length≤m:=by
 unfold uK;refine fK (FV _ _) ?_;simp;omega
theorem awg{a b:List Sp}(h:k<a.length):inter (a.take (k+1)) b=inter (a.take k) b++uK a[k] b b.length:=by
 unfold inter uK;rw[jF h,mO];simp
theorem awd(a b:List Sp):(inter a b).length≤a.length*b.length:=by
 unfold inter
 induction a with
 |nil=>simp
 |cons s a ih=>
  simp only[jN,dn,dS,Aw];have:=FV (λu:Sp=>decide (u.1≤u.2)) (b.map λt=>(max s.1 t.1,min s.2 t.2));simp only[fC]at this;omega
end
theorem asW : (prog.fieldsOf 41).toList = [{ name := "Lo", type := 3, offset := 0, embedded := false, tag := "", pkgPath := "", byteOffset := 0 }, { name := "Hi", type := 3, offset := 1, embedded := false, tag := "", pkgPath := "", byteOffset := 8 }] := aF
theorem asV : (prog.fieldsOf 82).toList = [{ name := "Kind", type := 3, offset := 0, embedded := false, tag := "", pkgPath := "", byteOffset := 0 }, { name := "Sheet", type := 3, offset := 1, embedded := false, tag := "", pkgPath := "", byteOffset := 8 }, { name := "Index", type := 3, offset := 2, embedded := false, tag := "", pkgPath := "", byteOffset := 16 }] := aF
theorem auy:prog.stoodInHeld 41=false:=aF
theorem aux:prog.stoodInHeld 82=false:=aF
theorem aAZ:prog.underlying 41=some (.struct (prog.fieldsOf 41)):=aF
theorem aAY:prog.underlying 82=some (.struct (prog.fieldsOf 82)):=aF
theorem asF(d:Nat)(a b c e:Int)(w:World):(Op.equalIn (d+2) 41 (.agg #[a,b]) (.agg #[c,e])).run prog w=.ok (a==c&&b==e) w:=by
 rw[al6 w (d+1) 41 _ _ aAZ auy,asW];simp[Op.eqFields,go_sem];by_cases h1:a=c<;>by_cases h2:b=e<;>simp[h1,h2]
theorem ah0(d:Nat)(t a b t' c e:Int)(w:World):(Op.equalIn (d+2) 82 (.agg #[t,a,b]) (.agg #[t',c,e])).run prog w=.ok (t==t'&&(a==c&&b==e)) w:=by
 rw[al6 w (d+1) 82 _ _ aAY aux,asV];simp[Op.eqFields,go_sem];by_cases h1:a=c<;>by_cases h2:b=e<;>by_cases h3:t=t'<;>simp[h1,h2,h3]
theorem atx(op:BinOp)(x y:Operand)(xs ys:Array Value)(w:World):(eqGuard op 41 x y (.agg xs) (.agg ys)).run prog w=.ok () w:=al5 w op 41 x y xs ys aF
theorem aiA(op:BinOp)(x y:Operand)(xs ys:Array Value)(w:World):(eqGuard op 82 x y (.agg xs) (.agg ys)).run prog w=.ok () w:=al5 w op 82 x y xs ys aF
theorem axm(a b c e:Int)(w:World):(binOp .neq 41 (.agg #[a,b]) (.agg #[c,e])).run prog w=.ok (.bool (!(a==c&&b==e))) w:=by
 rw[al9,show(10000:Nat)=9998+2 from rfl,asF];rfl
theorem axl(t a b t' c e:Int)(w:World):(binOp .neq 82 (.agg #[t,a,b]) (.agg #[t',c,e])).run prog w=.ok (.bool (!(t==t'&&(a==c&&b==e)))) w:=by
 rw[al9,show(10000:Nat)=9998+2 from rfl,ah0];rfl
theorem Z9{w:World}{a:Option Addr}{n:Nat}{xs:List (Int×Sp)}(h:aC Shape.trip w (.slice a n c) xs)(hk:k<xs.length):
  ∃b o,a=some ⟨b,o,none⟩∧w.cell? ⟨b,o+k*3,none⟩=some (.int .i64 xs[k].1)∧w.cell? ⟨b,o+k*3+1,none⟩=some (.int .i64 xs[k].2.1)∧w.cell? ⟨b,o+k*3+2,none⟩=some (.int .i64 xs[k].2.2):=by
 obtain⟨b,o,e,h1⟩:=h.atP jC hk;have hn:Shape.trip.n=3:=rfl;rw[hn]at h1;exact⟨b,o,e,h1 0 ae,h1 1 ae,h1 2 ae⟩
theorem U6{xs ys:List α}(hl:xs.length=ys.length)(hk:k=xs.length)(h:∀j,(hj:j<xs.length)→(hj':j<ys.length)→j<k→xs[j]=ys[j]):xs=ys:=
 oD hl λj h1 h2=>h j h1 h2 ae
attribute [local go_sem] Qv
attribute [local go_sem ↓] axm atx axl aiA
theorem azk(v u:Value)(xs ys:List Sp)(w:World)(hv:aC Shape.span w v xs)(hu:aC Shape.span w u ys):
  Calls prog 35 #[v,u] w λe w'=>e=.returned (.bool (decide (xs=ys)))∧BL w w':=by
 obtain⟨a,c,rfl,hc1,hc2⟩:=hv.shape;obtain⟨a',c',rfl,hd1,hd2⟩:=hu.shape;unfold maxLen at hc2 hd2;have HV:=U hv;have HU:=U hu;clear hv hu;by_cases hl:xs.length=ys.length
 ·have hl':((xs.length:Int) != ys.length)=false:=by simp[hl]
  have HL:=U hl;clear hl;have hle:xs.length≤ys.length:=Vx;go_in;go_wp2
  go_loopw [5] (λi wr=>∃k:Nat,k≤xs.length∧i=.int .i64 k∧BL w wr∧Hid (∀j,(hj:j<xs.length)→(hj':j<ys.length)→j<k→xs[j]=ys[j])) (λi _=>xs.length-(intOf i).toNat)
  case atStart=>exact⟨0,ae,rfl,aB _ _,λj _ _ hj=>ae⟩
  case round=>
   obtain⟨k,hk,rfl,hb,HN⟩:=hrel;by_cases hlt:k<xs.length
   ·have hlt':k<ys.length:=ae;obtain⟨b1,o1,rfl,c1,c2⟩:=(HV.o.below hb).span_at hlt;obtain⟨b2,o2,rfl,c3,c4⟩:=(HU.o.below hb).span_at hlt';have NE:Hid (xs[k]≠ys[k]→decide (xs=ys)=false):=U (λhne=>acO);have e1:(0:Int)≤k:=ae;have e2:(k:Int)<xs.length:=ae;have e3:(k:Int)<ys.length:=ae
    have EQ:Hid (xs[k]=ys[k]→∀j,(hj:j<xs.length)→(hj':j<ys.length)→j<k+1→xs[j]=ys[j]):=U (λhe j h1 h2 hj=>by
     by_cases e:j=k
     ·subst e;exact he
     ·exact HN.o j h1 h2 ae)
    clear HN;generalize hx:xs[k]=x at *;generalize hy:ys[k]=y at *;clear hx hy;obtain⟨x1,x2⟩:=x;obtain⟨y1,y2⟩:=y;simp only at c1 c2 c3 c4;by_cases he:x1=y1∧x2=y2
    ·have HF:=U (EQ.o (by simp only[yX];exact he):_);have t0:(!x1==y1 || !x2==y2)=false:=bC;have HE:=U he;clear he;go_wp2
     go_big_quiet (fail)
     go_wp2;go_roundw
     case rel=>exact⟨k+1,ae,aY,Bl.drewN hb _,HF⟩
     case measure=>exact aFF
    ·have HF:=U (NE.o (by simp only[ne_eq,yX];exact he));have t0:(!x1==y1 || !x2==y2)=true:=bC;clear he;go_wp2
     go_big_quiet (fail)
     go_wp2;go_ret;exact⟨bu Wv,Bl.drewN hb _⟩
   ·have HE:Hid (decide (xs=ys)=true):=U acP;go_wp2;go_ret;exact⟨bu Du,hb⟩
 ·have hl':((xs.length:Int) != ys.length)=true:=bC;have HE:Hid (decide (xs=ys)=false):=U acN;clear hl;go_in;go_wp2;go_ret;exact⟨bu Du,aB _ _⟩
theorem azi(v u:Value)(xs ys:List (Int×Sp))(w:World)(hv:aC Shape.trip w v xs)(hu:aC Shape.trip w u ys):
  Calls prog 26 #[v,u] w λe w'=>e=.returned (.bool (decide (xs=ys)))∧BL w w':=by
 obtain⟨a,c,rfl,hc1,hc2⟩:=hv.shape;obtain⟨a',c',rfl,hd1,hd2⟩:=hu.shape;unfold maxLen at hc2 hd2;have HV:=U hv;have HU:=U hu;clear hv hu;by_cases hl:xs.length=ys.length
 ·have hl':((xs.length:Int) != ys.length)=false:=by simp[hl]
  have HL:=U hl;clear hl;have hle:xs.length≤ys.length:=Vx;go_in;go_wp2
  go_loopw [5] (λi wr=>∃k:Nat,k≤xs.length∧i=.int .i64 k∧BL w wr∧Hid (∀j,(hj:j<xs.length)→(hj':j<ys.length)→j<k→xs[j]=ys[j])) (λi _=>xs.length-(intOf i).toNat)
  case atStart=>exact⟨0,ae,rfl,aB _ _,λj _ _ hj=>ae⟩
  case round=>
   obtain⟨k,hk,rfl,hb,HN⟩:=hrel;by_cases hlt:k<xs.length
   ·have hlt':k<ys.length:=ae;obtain⟨b1,o1,rfl,c1,c2,c3⟩:=Z9 (HV.o.below hb) hlt;obtain⟨b2,o2,rfl,c4,c5,c6⟩:=Z9 (HU.o.below hb) hlt';have NE:Hid (xs[k]≠ys[k]→decide (xs=ys)=false):=U (λhne=>acO);have e1:(0:Int)≤k:=ae;have e2:(k:Int)<xs.length:=ae;have e3:(k:Int)<ys.length:=ae
    have EQ:Hid (xs[k]=ys[k]→∀j,(hj:j<xs.length)→(hj':j<ys.length)→j<k+1→xs[j]=ys[j]):=U (λhe j h1 h2 hj=>by
     by_cases e:j=k
     ·subst e;exact he
     ·exact HN.o j h1 h2 ae)
    clear HN;generalize hx:xs[k]=x at *;generalize hy:ys[k]=y at *;clear hx hy;obtain⟨x1,x2,x3⟩:=x;obtain⟨y1,y2,y3⟩:=y;simp only at c1 c2 c3 c4 c5 c6;by_cases he:x1=y1∧x2=y2∧x3=y3
    ·have HF:=U (EQ.o (by simp only[yX];exact he):_);have t0:(!x1==y1 || (!x2==y2 || !x3==y3))=false:=bC;have HE:=U he;clear he;go_wp2
     go_big_quiet (fail)
     go_wp2;go_roundw
     case rel=>exact⟨k+1,ae,aY,Bl.drewN hb _,HF⟩
     case measure=>exact aFF
    ·have HF:=U (NE.o (by simp only[ne_eq,yX];exact he));have t0:(!x1==y1 || (!x2==y2 || !x3==y3))=true:=bC;clear he;go_wp2
     go_big_quiet (fail)
     go_wp2;go_ret;exact⟨bu Wv,Bl.drewN hb _⟩
   ·have HE:Hid (decide (xs=ys)=true):=U acP;go_wp2;go_ret;exact⟨bu Du,hb⟩
 ·have hl':((xs.length:Int) != ys.length)=true:=bC;have HE:Hid (decide (xs=ys)=false):=U acN;clear hl;go_in;go_wp2;go_ret;exact⟨bu Du,aB _ _⟩
theorem azj(v u:Value)(xs ys:List Int)(w:World)(hv:aC Shape.int w v xs)(hu:aC Shape.int w u ys):
  Calls prog 21 #[v,u] w λe w'=>e=.returned (.bool (decide (xs=ys)))∧BL w w':=by
 obtain⟨a,c,rfl,hc1,hc2⟩:=hv.shape;obtain⟨a',c',rfl,hd1,hd2⟩:=hu.shape;unfold maxLen at hc2 hd2;have HV:=U hv;have HU:=U hu;clear hv hu;by_cases hl:xs.length=ys.length
 ·have hl':((xs.length:Int) != ys.length)=false:=by simp[hl]
  have HL:=U hl;clear hl;have hle:xs.length≤ys.length:=Vx;go_in;go_wp2
  go_loopw [5] (λi wr=>∃k:Nat,k≤xs.length∧i=.int .i64 k∧BL w wr∧Hid (∀j,(hj:j<xs.length)→(hj':j<ys.length)→j<k→xs[j]=ys[j])) (λi _=>xs.length-(intOf i).toNat)
  case atStart=>exact⟨0,ae,rfl,aB _ _,λj _ _ hj=>ae⟩
  case round=>
   obtain⟨k,hk,rfl,hb,HN⟩:=hrel;by_cases hlt:k<xs.length
   ·have hlt':k<ys.length:=ae;obtain⟨b1,o1,rfl,c1⟩:=(HV.o.below hb).int_at hlt;obtain⟨b2,o2,rfl,c2⟩:=(HU.o.below hb).int_at hlt';have NE:Hid (xs[k]≠ys[k]→decide (xs=ys)=false):=U (λhne=>acO);have e1:(0:Int)≤k:=ae;have e2:(k:Int)<xs.length:=ae;have e3:(k:Int)<ys.length:=ae
    have EQ:Hid (xs[k]=ys[k]→∀j,(hj:j<xs.length)→(hj':j<ys.length)→j<k+1→xs[j]=ys[j]):=U (λhe j h1 h2 hj=>by
     by_cases e:j=k
     ·subst e;exact he
     ·exact HN.o j h1 h2 ae)
    clear HN;generalize hx:xs[k]=x at *;generalize hy:ys[k]=y at *;clear hx hy;by_cases he:x=y
    ·have HF:=U (EQ.o he);have t0:(x != y)=false:=by simp[he]
     clear he;go_wp2
     go_big_quiet (fail)
     go_wp2;go_roundw
     case rel=>exact⟨k+1,ae,aY,Bl.drewN hb _,HF⟩
     case measure=>exact aFF
    ·have HF:=U (NE.o he);have t0:(x != y)=true:=by simp[he]
     clear he;go_wp2
     go_big_quiet (fail)
     go_wp2;go_ret;exact⟨bu Wv,Bl.drewN hb _⟩
   ·have HE:Hid (decide (xs=ys)=true):=U acP;go_wp2;go_ret;exact⟨bu Du,hb⟩
 ·have hl':((xs.length:Int) != ys.length)=true:=bC;have HE:Hid (decide (xs=ys)=false):=U acN;clear hl;go_in;go_wp2;go_ret;exact⟨bu Du,aB _ _⟩
theorem ams{x y:List Sp}{t:Bool}{w:World}{d:Nat}{os:Array Obj}(hv:aC Shape.span w u x)(hu:aC Shape.span w v y)(hn:Hid (decide (x=y)=t)):
  Calls prog 35 #[u,v] (Sort.grow (redrawn w d) os) λe w''=>e=.returned (.bool t)∧∃p:Regrown,w''=Sort.grow (redrawn w p.d) p.os:=by
 rw[←hn.o];exact uZ (azk u v x y _ (hv.below (Ih w d os)) (hu.below (Ih w d os)))
theorem adc(v u:Value)(xs ys:List (List Sp))(w:World)(hv:aC Shape.span.list w v xs)(hu:aC Shape.span.list w u ys):
  Calls prog 11 #[v,u] w λe w'=>e=.returned (.bool (decide (xs=ys)))∧BL w w':=by
 obtain⟨a,c,rfl,hc1,hc2⟩:=hv.shape;obtain⟨a',c',rfl,hd1,hd2⟩:=hu.shape;unfold maxLen at hc2 hd2;have HV:=U hv;have HU:=U hu;clear hv hu;by_cases hl:xs.length=ys.length
 ·have hl':((xs.length:Int) != ys.length)=false:=by simp[hl]
  have HL:=U hl;clear hl;have hle:xs.length≤ys.length:=Vx;go_in;go_wp2
  go_loopw [5] (λi wr=>∃k:Nat,k≤xs.length∧i=.int .i64 k∧BL w wr∧Hid (∀j,(hj:j<xs.length)→(hj':j<ys.length)→j<k→xs[j]=ys[j])) (λi _=>xs.length-(intOf i).toNat)
  case atStart=>exact⟨0,ae,rfl,aB _ _,λj _ _ hj=>ae⟩
  case round=>
   obtain⟨k,hk,rfl,hb,HN⟩:=hrel;by_cases hlt:k<xs.length
   ·have hlt':k<ys.length:=ae;obtain⟨b1,o1,s1,rfl,q1,c1,h1⟩:=(HV.o.below hb).list_at hlt;obtain⟨b2,o2,s2,rfl,q2,c2,h2⟩:=(HU.o.below hb).list_at hlt';have NE:Hid (xs[k]≠ys[k]→decide (xs=ys)=false):=U (λhne=>acO);have e1:(0:Int)≤k:=ae;have e2:(k:Int)<xs.length:=ae;have e3:(k:Int)<ys.length:=ae
    have EQ:Hid (xs[k]=ys[k]→∀j,(hj:j<xs.length)→(hj':j<ys.length)→j<k+1→xs[j]=ys[j]):=U (λhe j h1 h2 hj=>by
     by_cases e:j=k
     ·subst e;exact he
     ·exact HN.o j h1 h2 ae)
    clear HN;generalize hx:xs[k]=x at *;generalize hy:ys[k]=y at *;have H1:=U h1;have H2:=U h2;clear h1 h2;obtain⟨t,HT⟩:=nm (decide (x=y));clear hx hy;obtain⟨p1,m1,d1,rfl,_⟩:∃p m d,s1=.slice p m d∧True:=by obtain⟨a,c,h,_⟩:=H1.o.shape;exact⟨_,_,_,h,trivial⟩
    obtain⟨p2,m2,d2,rfl,_⟩:∃p m d,s2=.slice p m d∧True:=by obtain⟨a,c,h,_⟩:=H2.o.shape;exact⟨_,_,_,h,trivial⟩
    cases t
    ·have HF:=U (NE.o (by have:=HT.o;simpa using this));go_wp2;refine qz aF aF ?_;(repeat(go_big_quiet_step (first|exact ams H1.o H2.o HT|fail)));refine aH ?_;intro wq hbq;go_wp2;go_ret;exact⟨bu Wv,Bl.call hb hbq⟩
    ·have HF:=U (EQ.o (by have:=HT.o;simpa using this));go_wp2;refine qz aF aF ?_;(repeat(go_big_quiet_step (first|exact ams H1.o H2.o HT|fail)));refine aH ?_;intro wq hbq;go_wp2;go_roundw
     case rel=>exact⟨k+1,ae,aY,Bl.call hb hbq,HF⟩
     case measure=>exact aFF
   ·have HE:Hid (decide (xs=ys)=true):=U acP;go_wp2;go_ret;exact⟨bu Du,hb⟩
 ·have hl':((xs.length:Int) != ys.length)=true:=bC;have HE:Hid (decide (xs=ys)=false):=U acN;clear hl;go_in;go_wp2;go_ret;exact⟨bu Du,aB _ _⟩
theorem asH(t a b t' c e:Int)(w:World):(binOp .eql 82 (.agg #[t,a,b]) (.agg #[t',c,e])).run prog w=.ok (.bool (t==t'&&(a==c&&b==e))) w:=by
 rw[run_eql_struct,show(10000:Nat)=9998+2 from rfl,ah0];rfl
attribute [local go_sem] Qv
attribute [local go_sem ↓] asH aiA
theorem arC(a:Option Addr)(c:Nat)(l:List (Int×Sp))(x:Int×Sp)(w:World)(hl:aC Shape.trip w (.slice a l.length c) l)(hn:l.length≤1000000):
  Calls prog 103 #[.slice a l.length c,.agg #[x.1,x.2.1,x.2.2]] w λe w'=>(∃i:Int,e=.returned (.int .i64 i)∧(0≤i↔x∈l))∧BL w w':=by
 have HL:=U hl;obtain⟨n,hnn⟩:∃m,Hid (l.length=m):=⟨_,U rfl⟩;rw[hnn.o]at hn ⊢;obtain⟨x1,x2,x3⟩:=x;dsimp only;clear hl;go_in;go_wp2_with fail;have HX:=U (Bx.new (W:=w) (t:=82) (vs:=[.int .i64 x1,.int .i64 x2,.int .i64 x3]) rfl);have HB0:=U (Bl.alloc (aB w.heap.size w) (.cells #[x1,x2,x3] 82));generalize w.alloc (.cells #[x1,x2,x3] 82)=w0 at *
 go_loopw [8] (λs8 wr=>∃k:Nat,k≤n∧s8=.int .i64 k∧Hid (BL w wr)∧Hid (Bx w.heap.size [x1,x2,x3] wr)∧Hid (∀j,(hj:j<l.length)→j<k→l[j]≠(x1,x2,x3))) (λs8 _=>n-(intOf s8).toNat)
 case atStart=>exact⟨0,ae,rfl,HB0,HX,U λj _ hj=>ae⟩
 case round=>
  clear HX HB0;obtain⟨k,hk,rfl,HB,HX,HN⟩:=hrel;by_cases hlt:k<n
  ·have lT:k<l.length:=Nc;obtain⟨b1,o1,e1,c1,c2,c3⟩:=Z9 (HL.o.below HB.o) lT;subst e1;have p0:=HX.o.cell 0;have p1:=HX.o.cell 1;have p2:=HX.o.cell 2;have pl:=HX.o.lt;simp only[aK,bB]at p0 p1 p2;have i1:(0:Int)≤k:=ae;have i2:(k:Int)<n:=ae;obtain⟨y,hy⟩:=nm (l[k]);rw[hy.o]at c1 c2 c3;have lb:=fe _ _ c1;dsimp only at lb;by_cases he:x1=y.1∧x2=y.2.1∧x3=y.2.2
   ·have t0:(x1==y.1&&(x2==y.2.1&&x3==y.2.2))=true:=by simp[he]
    have HE:=U he;clear he;go_wp2
    go_big_quiet (fail)
    go_wp2;go_ret;exact⟨⟨k,rfl,λ_=>by rw[show(x1,x2,x3)=l[k] by rw[hy.o];obtain⟨a,b,c⟩:=HE.o;rw[a,b,c]];exact eu lT,λ_=>ae⟩,Bl.drewN HB.o _⟩
   ·have t0:(x1==y.1&&(x2==y.2.1&&x3==y.2.2))=false:=by
     rw[aei];intro h;simp at h;exact he h
    have HE:=U he;clear he;go_wp2
    go_big_quiet (fail)
    go_wp2;go_roundw
    case rel=>exact⟨k+1,ae,aY,U (Bl.drewN HB.o _),U (HX.o.drewN _),U λj hj hjk=>by
     by_cases e:j=k
     ·subst e;intro h;rw[hy.o]at h;exact HE.o (by rw[h];exact⟨rfl,rfl,rfl⟩)
     ·exact HN.o j hj ae⟩
    case measure=>exact aFF
  ·have hkk:k=n:=ae;subst hkk;go_wp2;go_ret;refine⟨⟨-1,rfl,λh=>absurd h aW,λh=>?_⟩,HB.o⟩;obtain⟨j,hj,e⟩:=mr h;exact absurd e (HN.o j hj Nc)
theorem arb(a:Option Addr)(c:Nat)(l:List (Int×Sp))(x:Int×Sp)(w:World)(hl:aC Shape.trip w (.slice a l.length c) l)(hn:l.length≤1000000):
  Calls prog 63 #[.slice a l.length c,.agg #[x.1,x.2.1,x.2.2]] w (oK (decide (x∈l)) w):=by
 have HL:=U hl;obtain⟨x1,x2,x3⟩:=x;dsimp only;clear hl;obtain⟨bm,AY⟩:∃b,Hid (decide ((x1,x2,x3)∈l)=b):=⟨_,U rfl⟩;rw[AY.o];go_in;go_wp2_with fail;have hb0:=Bl.alloc (aB w.heap.size w) (.cells #[x1,x2,x3] 82);generalize w.alloc (.cells #[x1,x2,x3] 82)=w0 at *;refine(arC a c l (x1,x2,x3) w0 (HL.o.below hb0) hn).mono ?_;rintro e w1 ⟨⟨i,rfl,hi⟩,hb1⟩;have HI:=U hi;have HB:=U (Bl.call hb0 hb1);clear hi hb0 hb1
 cases bm with
 |true=>
  have h0:(0:Int)≤i:=HI.o.2 (by have:=AY.o;simpa using this);go_wp2;go_ret;exact⟨bu Jk,HB.o⟩
 |false=>
  have h0:¬(0:Int)≤i:=λh=>by have h1:=HI.o.1 h;have:=AY.o;simp[h1]at this
  go_wp2;go_ret;exact⟨bu Jk,HB.o⟩
end Go.Proofs.YtfmckbjeofiegaaGreat
