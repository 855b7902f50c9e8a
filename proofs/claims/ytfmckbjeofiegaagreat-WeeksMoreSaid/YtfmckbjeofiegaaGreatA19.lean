/- Part 19 of a proof. -/
import Derived.Test.YtfmckbjeofiegaaGreatA14
set_option maxRecDepth 100000
set_option maxHeartbeats 16000000
set_option linter.all false
open Go Go.RowKit Go.Proofs.Tryz
namespace Go.Proofs.YtfmckbjeofiegaaGreat
open Go
section
attribute [local go_sem] Qv
theorem an7(x:aJ)(cx:List Value)(ns nt:Int)(w:World)(hx:dM w x cx):Calls prog 8 #[.agg cx.toArray,ns,nt] w λe w'=>ZI w e w'∧(e=.returned (.bool true)→(x.sheets.length:Int)≤ns):=by
 obtain⟨va,vs,vr,jR,hR⟩:=hx;obtain⟨aa,ca,rfl,ha1,ha2⟩:=hR.stas.shape;obtain⟨as',cs',rfl,hs1,hs2⟩:=hR.sheets.shape;obtain⟨ar,cr,rfl,-,-⟩:=hR.reads.shape;unfold maxLen at ha2 hs2;have HA:=U hR.stas;have HS:=U hR.sheets;have gy:=U jR;clear hR jR;obtain⟨na,hna⟩:∃n,Hid (x.stas.length=n):=⟨_,U rfl⟩;obtain⟨n,hn⟩:=nm x.sheets.length;rw[hna.o]at ha1;rw[hn.o]at hs1;have XK:=HA.o;have YQ:=HS.o;have Ac:=gy.o;rw[hna.o]at XK Ac;rw[hn.o]at YQ Ac;replace HA:=U XK;replace HS:=U YQ;replace gy:=U Ac;clear XK YQ Ac;have HX:=U (Bx.new (W:=w) (t:=30) (vs:=cx) rfl);have HB:=U (Bl.alloc (aB w.heap.size w) (.cells cx.toArray 30));have x0:=(HX.o.cell 0).trans (show _=some (.slice aa na ca)from lY);go_in;go_wp2_with (with_reducible_and_instances refine dI 12 ?_)
 generalize w.alloc (.cells cx.toArray 30)=w0 at *;refine⟨?_⟩;have x4:w0.cell? ⟨w.heap.size,4,none⟩=some (.int .i64 x.ticks):=(HX.o.cell 4).trans lY;have x7:w0.cell? ⟨w.heap.size,7,none⟩=some (.slice as' n cs'):=(HX.o.cell 7).trans lY;have x8:w0.cell? ⟨w.heap.size,8,none⟩=some (.slice ar x.reads.length cr):=(HX.o.cell 8).trans lY;have lx:=HX.o.lt;by_cases h0:(40:Int)<(na:Int)
 ·have t:decide ((40:Int)<(na:Int))=true:=Jk;clear h0;go_wp2;go_ret;exact⟨⟨⟨_,rfl⟩,HB.o⟩,λh=>ze⟩
 have t0:decide ((40:Int)<(na:Int))=false:=Jk;clear h0;by_cases h1:ns<(n:Int)
 ·have t:decide (ns<(n:Int))=true:=qO;clear h1;go_wp2;go_ret;exact⟨⟨⟨_,rfl⟩,HB.o⟩,λh=>ze⟩
 have t1:decide (ns<(n:Int))=false:=qO;have H1:=U h1;clear h1;by_cases h2:nt<x.ticks
 ·have t:decide (nt<x.ticks)=true:=xw;clear h2;go_wp2;go_ret;exact⟨⟨⟨_,rfl⟩,HB.o⟩,λh=>ze⟩
 have t2:decide (nt<x.ticks)=false:=xw;clear h2;by_cases h3:(8:Int)<(x.reads.length:Int)
 ·have t:decide ((8:Int)<(x.reads.length:Int))=true:=EU;clear h3;go_wp2;go_ret;exact⟨⟨⟨_,rfl⟩,HB.o⟩,λh=>ze⟩
 have t3:decide ((8:Int)<(x.reads.length:Int))=false:=EU;clear h3;go_wp2
 go_loopw [7] (λs7 wr=>∃i:Nat,i≤na∧s7=.int .i64 i∧Hid (BL w wr)∧Hid (Bx w.heap.size cx wr)) (λs7 _=>na-(intOf s7).toNat)
 case atStart=>exact⟨0,ae,rfl,HB,HX⟩
 case round=>
  clear HB HX x0 x4 x7 x8 lx;obtain⟨i,hi,rfl,HB,HX⟩:=hrel;have x0:=(HX.o.cell 0).trans (show _=some (.slice aa na ca)from lY);have x7:=(HX.o.cell 7).trans (show _=some (.slice as' n cs')from lY);have lx:=HX.o.lt;by_cases hlt:i<na
  ·have lT:i<x.stas.length:=by have:=hna.o;omega
   have i1:(0:Int)≤i:=ae;have i2:(i:Int)<na:=ae;obtain⟨b,o,vh,e1,c1,c2,c3,c4,xg⟩:=(HA.o.below HB.o).sta_at lT;obtain⟨ah,ch,rfl,-,-⟩:=xg.shape;subst e1;have l1:=fe _ _ c4;dsimp only at l1;clear xg c1 c2 c3;obtain⟨m,hm⟩:=nm ((x.stas[i]).2.2.2.length);rw[hm.o]at c4;by_cases h20:(20:Int)<(m:Int)
   ·have t:decide ((20:Int)<(m:Int))=true:=by simpa using h20
    clear h20;go_wp2;go_ret;exact⟨⟨⟨_,rfl⟩,HB.o⟩,λh=>ze⟩
   ·have t:decide ((20:Int)<(m:Int))=false:=by simpa using h20
    clear h20;go_wp2;go_roundw
    case rel=>exact⟨i+1,ae,aY,HB,HX⟩
    case measure=>exact aFF
  ·have hii:i=na:=ae;subst hii;go_wp2
   go_loopw [8] (λs8 wr=>∃k:Nat,k≤n∧s8=.int .i64 k∧Hid (BL w wr)∧Hid (Bx w.heap.size cx wr)) (λs8 _=>n-(intOf s8).toNat)
   case atStart=>exact⟨0,ae,rfl,HB,HX⟩
   case round=>
    clear HB HX x0 x7 lx;obtain⟨k,hk,rfl,HB,HX⟩:=hrel;have x7:=(HX.o.cell 7).trans (show _=some (.slice as' n cs')from lY);have lx:=HX.o.lt;by_cases hlk:k<n
    ·have VJ:k<x.sheets.length:=iH;have k1:(0:Int)≤k:=ae;have k2:(k:Int)<n:=ae;obtain⟨b,o,cf,e1,hbl,hF,hC⟩:=CW (HS.o.below HB.o) VJ;subst e1;have HC:=U hC;have jm:=U hF.len;have HP:=U (aCa _ cf _ hF);clear hC hF;go_wp2_with (first|(refine dh gH rfl HC.o jm.o ?_)|(refine HP.o.mono ?_))
     rintro e w2 ⟨⟨q,rfl⟩,hb2⟩;have HB2:=U (Bl.call HB.o hb2);have bg:=U (HX.o.next hb2);clear HB HX x7 lx HP HC
     cases q with
     |true=>
      go_wp2;go_roundw
      case rel=>exact⟨k+1,ae,aY,HB2,bg⟩
      case measure=>exact aFF
     |false=>
      go_wp2;go_ret;exact⟨⟨⟨_,rfl⟩,HB2.o⟩,λh=>ze⟩
    ·have hkk:k=n:=ae;subst hkk;go_wp2;go_ret;exact⟨⟨⟨_,rfl⟩,HB.o⟩,λ_=>by have:=H1.o;have:=hn.o;omega⟩
end
end Go.Proofs.YtfmckbjeofiegaaGreat
