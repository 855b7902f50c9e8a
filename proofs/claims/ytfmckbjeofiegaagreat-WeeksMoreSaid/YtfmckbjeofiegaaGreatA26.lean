/- Part 26 of a proof. -/
import Derived.Test.YtfmckbjeofiegaaGreatA24
set_option maxRecDepth 100000
set_option maxHeartbeats 16000000
set_option linter.all false
open Go Go.RowKit Go.Proofs.Tryz
namespace Go.Proofs.YtfmckbjeofiegaaGreat
variable {j k:Nat}{α:Type}
section
attribute [local go_sem] Qv
attribute [local go_sem] Oper.semAt_some
def yj(all:List fB):List (List fB):=GA all (all.length+1)
theorem azI(l:List α)(h:j≤k):∃r,GA l j++r=GA l k:=by
 induction h with
 |refl=>exact⟨[],ow _⟩
 |step _ ih=>
  obtain⟨r,hr⟩:=ih;exact⟨r++nS l _ [],by rw[adk,←hr,yS]⟩
theorem azJ(Z:Nat→Prop)(Ba:Nat)(a:Option Addr)(c:Nat)(all:List fB)(n:Nat)(w:World)(hb:Bx Ba [.slice a all.length c] w)(hall:Shape.trip.list.reads Z w [.slice a all.length c] all)(hZ:∀q,Z q→q<w.heap.size)(hZB:Z Ba)(hl:all.length≤1000):
  ZJ prog n 101 #[.pointer (some ⟨Ba,0,none⟩)] U3 Z (λys=>ys.map (·.2)=yj all) (yj all).length w λown y W=>OG w.heap.size own y W:=by
 intro l J Jx W hW hJ hJx hY hj0;have HJ:=U hJ;have yN:=U hJx;have HJ0:=U hj0;have HPK:=U (ax3 l w.heap.size (n-1) Z hZ J Jx (yj all) (U hJ) (U hJx) (U (λown pre x W1 h1 h2 h3 h4=>hY own pre x W1 h1 h2 h3 h4)));have HB:=U hb;have zW:=U hall;have Cm:=U (λq (hq:Z q)=>hW.block q (hZ q hq));have KC:=hW.size;clear hJ hJx hY hj0 hb hall;obtain⟨nn,hn⟩:∃m,Hid (all.length=m):=⟨_,U rfl⟩;have hBl:=HB.o.lt;rw[hn.o]at hl;refine xV func101 rfl trivial ?_ rfl;simp only[ntmps101,jb,dS,fU,Nat.reduceAdd,Nat.reduceSub,kv,kw,kC,kz,fE,gB];have hfn:∀k,Fence.wide.fn k:=(λ_=>trivial);have hdp:¬(Fence.wide.depth.isSome=true):=kL;gi_wp2
 gi_loopw [3] (λs3 wr=>∃(k:Nat) (pre:List (Value×List fB)) (own:Nat→Prop),k≤nn+1∧s3=.int .i64 k∧Hid (J own pre wr)∧Hid (pre.map (·.2)=GA all k)∧Hid (W.heap.size≤wr.heap.size)∧Hid ((∀j,own j→W.heap.size≤j∧j<wr.heap.size)∧∀j,Z j→wr.heap[j]?=w.heap[j]?)) (λs3 _=>nn+1-(intOf s3).toNat)
 case atStart=>exact⟨0,[],λ_=>False,ae,rfl,HJ0,U rfl,U (aV _),U ⟨λ_ h=>h.elim,Cm.o⟩⟩
 case round=>
  obtain⟨k,pre,own,hk,rfl,gL,nG,JP,HO⟩:=hrel;have hsz:=JP.o;have XB:=HB.o.block (HO.o.2 Ba hZB) ae;have d0:=XB.cell 0;have dl:=XB.lt;simp only[aK]at d0;rw[hn.o]at d0;by_cases hlt:k≤nn
  ·have i1:(k:Int)≤nn:=ae;obtain⟨r,hr⟩:=azI all (show k+1≤all.length+1 from iH)
   have hR:pre.map (·.2)++nS all k []++r=yj all:=by
    unfold yj;rw[nG.o,←hr,adk]
   have HP:=U (HPK.o k all a c [] (.slice none 0 0) own pre wr r hR gL.o (λj hj=>(HO.o.1 j hj).2) ae (Shape.keep _ zW.o ⟨ae,λj hj _=>HO.o.2 j hj⟩) (Di rfl) (λj hj=>MR) iH bC);clear hR hr;rw[hn.o]at HP;gi_wp2_with fail;refine(jH jJ HP.o).mono ?_;rintro e w2 ⟨b2,kI,xs,rfl,h1,h2,h3,h4,h5⟩;have H1:=U h1;have H2:=U h2;have H3:=U h3;have H4:=U h4;have H5:=U h5;clear h1 h2 h3 h4 h5 d0 dl
   cases b2 with
   |false=>
    gi_wp2;go_end0;rcases H5.o with⟨h,_⟩|⟨_,h⟩
    ·cases h
    ·exact⟨⟨_,rfl⟩,kI,xs,.inr h⟩
   |true=>
    gi_wp2;go_roundw
    case rel=>
     rcases H5.o with⟨_,h4,h5⟩|⟨h,_⟩
     ·refine⟨k+1,xs,kI,ae,aY,U h4,U (by rw[h5,nG.o,adk]),U (by have:=H1.o;omega),U ⟨λj hj=>?_,λj hj=>(H4.o j (.inl hj)).trans (HO.o.2 j hj)⟩⟩;have:=H1.o;rcases H3.o j hj with h|h
      ·have:=HO.o.1 j h;exact⟨this.1,ae⟩
      ·exact⟨ae,h.2⟩
     ·cases h
    case measure=>exact aFF
  ·have hkk:k=nn+1:=ae;subst hkk;have i1:¬(nn:Int)+1≤nn:=ae;gi_wp2;go_end0;exact⟨⟨_,rfl⟩,own,pre,.inl ⟨by show _=GA all (all.length+1);rw[hn.o];exact nG.o,gL.o⟩⟩
theorem aCd(a:Option Addr)(n c:Nat)(w:World):Calls prog 61 #[.slice a n c] w λe w'=>e=.returned (.func (.func 101) #[] #[.pointer (some ⟨w.heap.size,0,none⟩)])∧w'=w.alloc (.cells #[.slice a n c] 77):=by
 go_in;go_wp2;go_ret;exact⟨rfl,rfl⟩
end
end Go.Proofs.YtfmckbjeofiegaaGreat
