/- Part 7 of a proof. -/
import Derived.Test.YtfmckbjeofiegaaGreatA3
import Derived.Test.YtfmckbjeofiegaaGreatA4
import Derived.Test.YtfmckbjeofiegaaGreatA5
set_option maxRecDepth 100000
set_option maxHeartbeats 16000000
set_option linter.all false
open Go Go.RowKit Go.Proofs.Tryz
namespace Go.Proofs.YtfmckbjeofiegaaGreat
variable {a:Act}{ops:Array Oper}{Q:Exit→Act→World→Prop}{b hi y:Int}{rest:List Oper}{l ys:List Sp}{cs vs:List Value}{B base base' c g i k o:Nat}{p:bU}{P:Program}{α β:Type}{e:TypeId}{v v':Value}{W W' w' w1:World}
theorem aAy{a:Int}(hb:0<b)(h:a.tmod b<0):a.tdiv b-1=a / b:=by
 rw[Int.tmod_eq_emod]at h;rw[Int.tdiv_eq_ediv];have h1:=Int.emod_nonneg a (by omega:b≠0);split at h
 ·omega
 ·rename_i hn;rw[aD hn,Int.sign_eq_one_of_pos hb];omega
theorem aAz{a:Int}(hb:0<b)(h:¬a.tmod b<0):a.tdiv b=a / b:=by
 rw[Int.tmod_eq_emod]at h;rw[Int.tdiv_eq_ediv];have h1:=Int.emod_lt_of_pos a hb;split at h
 ·rename_i hn;rw[aG hn];omega
 ·exfalso;omega
theorem aAA{a:Int}(h1:-4000000000000≤a)(h2:a≤4000000000000)(hb:0<b)(h:a.tmod b<0):wrap64 (a.tdiv b-1)=a / b:=by
 rw[aAy hb h];have k1:-4000000000000≤a / b:=Int.le_ediv_of_mul_le hb ae;have k2:a / b≤4000000000000:=Ug hb ae;simp only[wrap64];omega
theorem asR(a b:Int)(w:World)(a1:-4000000000000≤a)(a2:a≤4000000000000)(hb0:0<b)(hb1:b≤4000000000000):Calls prog 274 #[a,b] w λe w'=>e=.returned (.int .i64 (a / b))∧BL w w':=by
 have hb2:(b==0)=false:=bC;go_enter func274,ntmps274;go_wp2
 all_goals
  go_ret;exact⟨gW (by first|exact aAA a1 a2 hb0 ae|exact aAz (a:=a) (b:=b) hb0 ae),Je⟩
theorem atg(x y:Int)(w:World):Calls prog 217 #[.agg #[x,y]] w λe w'=>e=.returned (.bool (Lm (x,y)))∧BL w w':=by
 go_enter func217,ntmps217;go_wp2_with (first|(go_at_call 216;refine(aaE _ _ _ _).mono ?_;rintro e w' ⟨rfl,rfl⟩)|fail)
 all_goals
  go_ret;exact⟨bu (by rw[DK];simp[Lm,dw]at *;try omega),Je⟩
theorem az8(l m:Int)(w:World)(l1:0≤l)(l2:l≤12000)(m1:0≤m)(m2:m≤4000):Calls prog 264 #[l,m] w λe w'=>e=.returned (.int .i64 (sP l m))∧BL w w':=by
 have hm:0≤l*m:=yR ae ae;have hm2:l*m≤12000*4000:=Hy ae ae ae ae;go_enter func264,ntmps264;go_wp2
 all_goals
  go_ret;exact⟨rfl,Je⟩
theorem asb(a b:Option Addr)(n m c d:Nat)(x y z:Int)(w:World):Calls prog 231 #[.agg #[.slice a n c,.slice b m d],.agg #[x,y,z]] w λe w'=>e=.returned (.bool (decide (0≤x)&&decide (x≤(n:Int))&&xz (y,z) 0 400))∧BL w w':=by
 go_enter func231,ntmps231;go_wp2_with (first|(go_at_call 226;refine(Qy _ _ _ _).mono ?_;rintro e w' ⟨rfl,rfl⟩)|(go_at_call 224;refine(aap _ _ _ _ _).mono ?_;rintro e w' ⟨rfl,hbs⟩)|fail)
 all_goals
  go_ret;exact⟨bu (by rw[DK];simp[dw,xz]at *;try omega),Je⟩
theorem aqS(hb:BL W w1):(∀b o,b<W.heap.size→w1.cell? ⟨b,o,none⟩=W.cell? ⟨b,o,none⟩)∧(∀b o,b<W.heap.size→w1.frozen? ⟨b,o,none⟩=W.frozen? ⟨b,o,none⟩):=
 ⟨λb o h=>hb.cell (p:=⟨b,o,none⟩) h,λb o h=>hb.frozen (p:=⟨b,o,none⟩) h⟩
def acy(p:bU):Int:=if fA p=true then 0 else 10
theorem acA(h:fA p=true):acy p=0:=aG h
theorem acz(h:¬fA p=true):acy p=10:=aD h
theorem aaz(p:bU)(w:World):Calls prog 162 #[.agg #[p.pitch,p.height,p.radius,p.low,p.high,p.cols,p.al.1,p.al.2,p.ac.1,p.ac.2]] w λe w'=>e=.returned (.int .i64 (acy p))∧BL w w':=by
 obtain⟨x1,x2,x3,x4,x5,x6,⟨x7,x8⟩,⟨x9,dL⟩⟩:=p;go_enter func162,ntmps162;go_wp2_with (first|(go_at_call 216;refine(aaE _ _ _ _).mono ?_;rintro e w' ⟨rfl,rfl⟩)|(go_at_call 217;refine(atg _ _ _).mono ?_;rintro e w' ⟨rfl,hbs⟩;obtain⟨hcb,Nk⟩:=aqS hbs;have hzb:=hbs.size;(try simp only[fH]at hzb);have hzl:w.heap.size<w'.heap.size:=ae)|fail)
 all_goals
  go_ret;exact⟨gW (by first|exact(acA (Bz.2 (by simp[dw,Lm]at *;omega))).symm|exact(acz (λh=>by have:=Bz.1 h;clear h;simp[dw,Lm]at *;omega)).symm),alX⟩
theorem asP(x1 x2 x3 x4 x5 x6 x7 x8 x9 dL y:Int)(w:World)(h2:x2≤400000)(h3:0≤x3)(h3':x3≤4000000)(hy:0≤y)(hy':y≤x2):
  Calls prog 273 #[.agg #[x1,x2,x3,x4,x5,x6,x7,x8,x9,dL],y] w λe w'=>e=.returned (.int .i64 (gP ⟨x1,x2,x3,x4,x5,x6,(x7,x8),(x9,dL)⟩ y))∧BL w w':=by
 have HE:Hid (gP ⟨x1,x2,x3,x4,x5,x6,(x7,x8),(x9,dL)⟩ y=if x3=0 then 0 else y*(x2-y) / (2*x3)):=U rfl;have m1:0≤y*(x2-y):=yR hy ae;have m2:y*(x2-y)≤400000*400000:=Hy ae ae ae ae;by_cases h0:x3=0
 ·have HF:Hid (gP ⟨x1,x2,x3,x4,x5,x6,(x7,x8),(x9,dL)⟩ y=0):=by rw[Hid,HE.o,aG h0]
  have d0:(x3==0)=true:=Jk;clear h0 HE;go_enter func273,ntmps273;go_wp2;go_ret;exact⟨gW HF.o.symm,ayB⟩
 ·have hd:y*(x2-y) / (2*x3)=(y*(x2-y)).tdiv (2*x3):=(agc m1).symm;have HF:Hid (gP ⟨x1,x2,x3,x4,x5,x6,(x7,x8),(x9,dL)⟩ y=y*(x2-y) / (2*x3)):=by rw[Hid,HE.o,aD h0]
  have HD:=U hd;clear hd;have d0:(x3==0)=false:=Jk;have d1:(2*x3==0)=false:=bC;have w1:IntKind.i64.wrap (y*(x2-y))=y*(x2-y):=dE _ ae;have k1:0≤y*(x2-y) / (2*x3):=Uh m1 ae;have k2:y*(x2-y) / (2*x3)≤160000000000:=Ug ae ae;clear HE;go_enter func273,ntmps273;go_wp2
  all_goals
   go_ret;exact⟨gW Wv,ayB⟩
def Kc(p:Int×Int)(w:World)(e:Ending)(w':World):Prop:=e=.returned (.agg #[p.1,p.2])∧BL w w'
def Eg(n:Int)(w:World)(e:Ending)(w':World):Prop:=e=.returned (.int .i64 n)∧BL w w'
def oK(b:Bool)(w:World)(e:Ending)(w':World):Prop:=e=.returned (.bool b)∧BL w w'
theorem kept(hb:BL W w1){b:Nat}(h:W.cell? ⟨b,o,none⟩=some v):w1.cell? ⟨b,o,none⟩=some v:=(hb.cell (p:=⟨b,o,none⟩) (fe W _ h)).trans h
theorem akF(hb:BL W w1){b:Nat}(hl:b<W.heap.size)(h:W.frozen? ⟨b,o,none⟩=false):w1.frozen? ⟨b,o,none⟩=false:=(hb.frozen (p:=⟨b,o,none⟩) hl).trans h
structure Bx(B:Nat)(vs:List Value)(w:World):Prop where
 lt:B<w.heap.size
 cell:∀j,w.cell? ⟨B,j,none⟩=vs[j]?
 free:∀j,w.frozen? ⟨B,j,none⟩=false
section
variable {B:Nat} {vs:List Value} {w w':World}
theorem Bx.of{t:TypeId}(h:w.heap[B]?=some (.cells vs.toArray t (0,0))):Bx B vs w:=by
 have hlt:B<w.heap.size:=by
  by_cases hl:B<w.heap.size
  ·exact hl
  ·simp[aed (Nat.le_of_not_lt hl)]at h
 exact⟨hlt,λj=>by rw[cell_of_row w B j vs.toArray t (0,0) h];simp,λj=>frozen_of_row w B j _ _ h⟩
theorem Bx.new{t:TypeId}(hB:W.heap.size=B):Bx B vs (W.alloc (.cells vs.toArray t)):=by
 subst hB;exact Bx.of (t:=t) (CZ W _)
theorem Bx.next(h:Bx B vs w)(hb:BL w w'):Bx B vs w':=
 ⟨nH h.lt hb.size,λj=>(hb.cell (p:=⟨B,j,none⟩) h.lt).trans (h.cell j),λj=>(hb.frozen (p:=⟨B,j,none⟩) h.lt).trans (h.free j)⟩
theorem Bx.alloc(h:Bx B vs w)(o:Obj):Bx B vs (w.alloc o):=h.next (Bl.alloc (aB _ _) o)
theorem Bx.drewN(h:Bx B vs w)(n:Nat):Bx B vs (w.drewN n):=h.next (Bl.drewN (aB _ _) n)
theorem Bx.drew(h:Bx B vs w):Bx B vs w.drew:=h.next ⟨rfl,rfl,rfl,aV _,λ_ _=>rfl⟩
theorem Bx.grown{row:Option Nat}(h:Bx B vs w)(hg:w.grownBy w' row)(hne:some B≠row):Bx B vs w':=
 ⟨nH h.lt hg.size,λj=>(hg.cell_far ⟨B,j,none⟩ h.lt hne).trans (h.cell j),λj=>(hg.frozen_far ⟨B,j,none⟩ h.lt hne).trans (h.free j)⟩
theorem Bx.far(h:Bx B vs w){p:Addr}(hp:p.block≠B)(u:Value):Bx B vs (w.setCell p u):=
 ⟨by simpa using h.lt,λj=>by rw[Qg _ _ _ _ (λe=>hp NW)];exact h.cell j,λj=>by rw[agJ];exact h.free j⟩
theorem Bx.set(h:Bx B vs w)(j:Nat)(u:Value)(hj:j<vs.length):Bx B (vs.set j u) (w.setCell ⟨B,j,none⟩ u):=
 ⟨by simpa using h.lt,λi=>by
  by_cases e:i=j
  ·subst e;rw[UL _ _ _ (u:=vs[i]) (by rw[h.cell,di hj])];simp[hj]
  ·rw[Qg _ _ _ _ (λk=>e akw),h.cell,Ar (Ay e)],λi=>by rw[agJ];exact h.free i⟩
theorem Bx.val(h:Bx B vs w){us:List Value}(e:vs=us):Bx B us w:=e ▸ h
end
abbrev pbx(B:Nat)(p:bU)(w:World):Prop:=Bx B (uR p) w
theorem uu{p:Prop}(h:p:=by repeat(first|assumption|exact Bx.new (by first|rfl|(simp;done))|refine Bx.next ?_ (by assumption)|refine Bx.alloc ?_ _|refine Bx.drewN ?_ _|refine Bx.far ?_ (by simp;try omega) _|fail)):p:=h
section
attribute [local go_sem] Qv
theorem IM{l:List mo}(h:k<l.length):hgt l k=l[k]:=by simp[hgt,bN,h]
theorem ajQ{l:List mo}:pR l=true↔1≤l.length∧l.length≤16∧∀j,j<l.length→kY l j=true:=by
 unfold pR;rw[bW,bW,dG,dG,alR,and_assoc]
theorem ajR{l:List mo}(hi:i<l.length)(h:kY l i=false):pR l=false:=by
 cases e:pR l
 ·rfl
 ·rw[(ajQ.1 e).2.2 i hi]at h;cases h
theorem auF{l:List mo}(h:∀j,j<l.length→kY l j=true):pR l=dw l.length 1 16:=by
 rw[DK,ajQ];simp only[dw,bW,dG];constructor
 ·rintro⟨h1,h2,_⟩;omega
 ·rintro⟨h1,h2⟩;exact⟨ae,ae,h⟩
theorem auD{l:List mo}{x lo:Int}(h:hgt l 0=(x,lo,hi)):kY l 0=decide (x=0∧x≤10000∧0≤lo∧lo≤hi∧hi≤4000):=by
 unfold kY;rw[h];rw[Bool.eq_iff_iff];simp;omega
theorem auE{l:List mo}{x lo p:Int}(h:hgt l k=(x,lo,hi))(hp:(hgt l (k-1)).1=p)(hk:k≠0):kY l k=decide (p<x∧x≤10000∧0≤lo∧lo≤hi∧hi≤4000):=by
 unfold kY;rw[h,hp,if_neg hk];rw[Bool.eq_iff_iff];simp;omega
theorem GJ(a b c:Int)(t:Bool)(w:World)(h:Hid (dw a b c=t)):Calls prog 160 #[a,b,c] w λe w'=>e=.returned (.bool t)∧BL w w':=
 (Oi a b c w).mono λ_ _ ⟨h1,h2⟩=>⟨NY,by rw[←h2];exact aB _ _⟩
theorem azM(v:Value)(l:List mo)(w:World)(hv:aC Shape.trip w v l):Calls prog 161 #[v] w λe w'=>e=.returned (.bool (pR l))∧BL w w':=by
 obtain⟨a,c,rfl,hc1,hc2⟩:=hv.shape;unfold maxLen at hc2;have HV:=U hv;clear hv;go_enter func161,ntmps161;go_wp2
 go_loopw [7] (λi wr=>∃k:Nat,k≤l.length∧i=.int .i64 k∧Hid (∀j,j<k→kY l j=true)∧BL w wr) (λi _=>l.length-(intOf i).toNat)
 case atStart=>exact⟨0,ae,rfl,U (λj h=>ae),aB _ _⟩
 case round=>
  obtain⟨k,hk,rfl,HA,hb⟩:=hrel;by_cases hlt:k<l.length
  ·obtain⟨b1,o1,e1,c1,c2,c3⟩:=(HV.o.below hb).trip_at hlt;subst e1;have hlk:=IM hlt;have hbw:=fe _ _ c1;dsimp only at hbw;have i1:(0:Int)≤(k:Int):=ae;have i2:(k:Int)<l.length:=ae;obtain⟨t,ht⟩:∃t,Hid (kY l k=t):=⟨_,rfl⟩;by_cases hk0:k=0
   ·have HAT:=U (auD (l:=l) (x:=l[k].1) (lo:=l[k].2.1) (hi:=l[k].2.2) (by subst hk0;exact hlk));rw[show kY l 0=kY l k by rw[hk0]]at HAT;have z1:((k:Int)==0)=true:=by simpa using hk0
    have z2:decide (0<k)=false:=bC;have z3:decide ((0:Int)<(k:Int))=false:=bC;clear hlk hk0;generalize l[k].2.2=hi at *;generalize l[k].2.1=lo at *;generalize l[k].1=x at *;go_wp2
    go_cut [54]from 12 to 54 (λs54 wx=>s54=.bool (!kY l k)∧BL wr wx)
    case first=>
     by_cases h1:x≠0
     ·have d1:(x != 0)=true:=qO;have HW:Hid (dw lo 0 hi=dw lo 0 hi):=U rfl;have HT:Hid ((!false)=!kY l k):=Jg;clear HAT;refine qz aF aF ?_;repeat(go_big_quiet_step (first|exact uZ (GJ _ _ _ _ _ HW)|fail))
      refine aH ?_;intro w5 hb5;go_wp2;go_meet;exact⟨gQ Value.bool HT.o,ru hb5⟩
     ·have d1:(x != 0)=false:=qO;have d2:decide (10000<x)=false:=bC;by_cases h3:¬(0≤lo∧lo≤hi)
      ·have HW:Hid (dw lo 0 hi=false):=U aA4;have HT:Hid ((!false)=!kY l k):=Jg;clear HAT;refine qz aF aF ?_;repeat(go_big_quiet_step (first|exact uZ (GJ _ _ _ _ _ HW)|fail))
       refine aH ?_;intro w5 hb5;go_wp2;go_meet;exact⟨gQ Value.bool HT.o,ru hb5⟩
      ·have HW:Hid (dw lo 0 hi=true):=U (by unfold dw;simp;omega);by_cases h4:4000<hi
       ·have d4:decide (4000<hi)=true:=Jl;have HT:Hid ((!false)=!kY l k):=Jg;clear HAT;refine qz aF aF ?_;repeat(go_big_quiet_step (first|exact uZ (GJ _ _ _ _ _ HW)|fail))
        refine aH ?_;intro w5 hb5;go_wp2;go_meet;exact⟨gQ Value.bool HT.o,ru hb5⟩
       ·have d4:decide (4000<hi)=false:=Jl;have HT:Hid ((!true)=!kY l k):=Jg;clear HAT;refine qz aF aF ?_;repeat(go_big_quiet_step (first|exact uZ (GJ _ _ _ _ _ HW)|fail))
        refine aH ?_;intro w5 hb5;go_wp2;go_meet;exact⟨gQ Value.bool HT.o,ru hb5⟩
    case rest=>
     obtain⟨rfl,hbc⟩:=hcut;rw[ht.o];cases t
     ·have HF:Hid (pR l=false):=U (ajR hlt ht.o);go_wp2;go_ret;exact⟨bu HF.o.symm,Bl.call hb hbc⟩
     ·go_wp2;go_roundw
      case rel=>exact⟨k+1,ae,aY,U (λj hj=>by
       by_cases e:j=k
       ·subst e;exact ht.o
       ·exact HA.o j ae),Bl.call hb hbc⟩
      case measure=>exact aFF
   ·obtain⟨b2,o2,e2,p1,p2,p3⟩:=(HV.o.below hb).trip_at (k:=k-1) ae;cases e2;have HAT:=U (auE (l:=l) (k:=k) (x:=l[k].1) (lo:=l[k].2.1) (hi:=l[k].2.2) (p:=l[k-1].1) hlk (by rw[IM ae]) hk0);have z1:((k:Int)==0)=false:=by simpa using hk0
    have z2:decide (0<k)=true:=bC;have z3:decide ((0:Int)<(k:Int))=true:=bC;have y1:IntKind.i64.wrap ((k:Int)-1)=(k:Int)-1:=dE _ ae;have y2:(0:Int)≤(k:Int)-1:=ae;have y3:(k:Int)-1<l.length:=ae;have y4:((k:Int)-1).toNat=k-1:=ae;clear hlk hk0 p2 p3;generalize l[k].2.2=hi at *;generalize l[k].2.1=lo at *;generalize l[k].1=x at *;generalize l[k-1].1=p at *;go_wp2
    go_cut [54]from 12 to 54 (λs54 wx=>s54=.bool (!kY l k)∧BL wr wx)
    case first=>
     by_cases h1:x≤p
     ·have d1:decide (x≤p)=true:=qO;have HW:Hid (dw lo 0 hi=dw lo 0 hi):=U rfl;have HT:Hid ((!false)=!kY l k):=Jg;clear HAT;refine qz aF aF ?_;repeat(go_big_quiet_step (first|exact uZ (GJ _ _ _ _ _ HW)|fail))
      refine aH ?_;intro w5 hb5;go_wp2;go_meet;exact⟨gQ Value.bool HT.o,ru hb5⟩
     ·have d1:decide (x≤p)=false:=qO;by_cases h2:10000<x
      ·have d2:decide (10000<x)=true:=xw;have HW:Hid (dw lo 0 hi=dw lo 0 hi):=U rfl;have HT:Hid ((!false)=!kY l k):=Jg;clear HAT;refine qz aF aF ?_;repeat(go_big_quiet_step (first|exact uZ (GJ _ _ _ _ _ HW)|fail))
       refine aH ?_;intro w5 hb5;go_wp2;go_meet;exact⟨gQ Value.bool HT.o,ru hb5⟩
      ·have d2:decide (10000<x)=false:=xw;by_cases h3:¬(0≤lo∧lo≤hi)
       ·have HW:Hid (dw lo 0 hi=false):=U aA4;have HT:Hid ((!false)=!kY l k):=Jg;clear HAT;refine qz aF aF ?_;repeat(go_big_quiet_step (first|exact uZ (GJ _ _ _ _ _ HW)|fail))
        refine aH ?_;intro w5 hb5;go_wp2;go_meet;exact⟨gQ Value.bool HT.o,ru hb5⟩
       ·have HW:Hid (dw lo 0 hi=true):=U (by unfold dw;simp;omega);by_cases h4:4000<hi
        ·have d4:decide (4000<hi)=true:=Jl;have HT:Hid ((!false)=!kY l k):=Jg;clear HAT;refine qz aF aF ?_;repeat(go_big_quiet_step (first|exact uZ (GJ _ _ _ _ _ HW)|fail))
         refine aH ?_;intro w5 hb5;go_wp2;go_meet;exact⟨gQ Value.bool HT.o,ru hb5⟩
        ·have d4:decide (4000<hi)=false:=Jl;have HT:Hid ((!true)=!kY l k):=Jg;clear HAT;refine qz aF aF ?_;repeat(go_big_quiet_step (first|exact uZ (GJ _ _ _ _ _ HW)|fail))
         refine aH ?_;intro w5 hb5;go_wp2;go_meet;exact⟨gQ Value.bool HT.o,ru hb5⟩
    case rest=>
     obtain⟨rfl,hbc⟩:=hcut;rw[ht.o];cases t
     ·have HF:Hid (pR l=false):=U (ajR hlt ht.o);go_wp2;go_ret;exact⟨bu HF.o.symm,Bl.call hb hbc⟩
     ·go_wp2;go_roundw
      case rel=>exact⟨k+1,ae,aY,U (λj hj=>by
       by_cases e:j=k
       ·subst e;exact ht.o
       ·exact HA.o j ae),Bl.call hb hbc⟩
      case measure=>exact aFF
  ·have HF:Hid (pR l=dw l.length 1 16):=U (auF λj hj=>HA.o j ae);go_wp2_with (go_at_call 160;refine(Oi _ _ _ _).mono ?_;rintro e w' ⟨rfl,rfl⟩)
   go_ret;exact⟨bu HF.o.symm,hb⟩
theorem aC.sta_at{w:World}{a:Option Addr}{n:Nat}{xs:List iC}(h:aC Shape.sta w (.slice a n c) xs)(hk:k<xs.length):
  ∃b o v,a=some ⟨b,o,none⟩∧w.cell? ⟨b,o+k*4,none⟩=some (.int .i64 xs[k].1)∧w.cell? ⟨b,o+k*4+1,none⟩=some (.int .i64 xs[k].2.1)∧w.cell? ⟨b,o+k*4+2,none⟩=some (.int .i64 xs[k].2.2.1)∧w.cell? ⟨b,o+k*4+3,none⟩=some v∧aC Shape.trip w v xs[k].2.2.2:=by
 obtain⟨b,o,cs,e,_,h1,h2⟩:=h.at hk;obtain⟨v,rfl,h3⟩:=BD.1 h1;have hn:Shape.sta.n=4:=rfl;rw[hn]at h2;exact⟨b,o,v,e,h2 0 ae,h2 1 ae,h2 2 ae,h2 3 ae,h3⟩
theorem Sn{l:List iC}(h:k<l.length):dH l k=l[k]:=by simp[dH,bN,h]
theorem aAc{l:List iC}(h:32<l.length):jU l=(2,0):=by unfold jU;rw[if_pos h]
theorem am0{l:List iC}(hn:l.length≤32)(hk:k<l.length)(h0:∀j,j<k→sQ l j=0){e:Int}(h:sQ l k=e)(he:e≠0):jU l=(e,(k:Int)):=by
 subst h;unfold jU;rw[if_neg ae,aaB hk h0 he]
theorem amZ{l:List iC}(hn:l.length≤32)(h0:∀j,j<l.length→sQ l j=0):jU l=(0,0):=by
 unfold jU;rw[if_neg ae,Kv.2 h0]
theorem aAb{l:List iC}{id x p:Int}{hs:List mo}{t q:Bool}(h:dH l k=(id,x,y,hs))(hp:(dH l (k-1)).1=p)(ht:(decide (1≤id∧id≤65535∧0≤x∧x≤2000∧0≤y∧y≤2000)&&(decide (k=0) || decide (p<id)))=t)(hq:pR hs=q):
  sQ l k=if t=true then(if q=true then 0 else 51)else 50:=by
 unfold sQ acw;rw[h,hp,hq,←ht]
 congr 1
 simp only[dG,bW,OB,aay];constructor
 ·rintro⟨h1,h2⟩;exact⟨h1,ae⟩
 ·rintro⟨h1,h2⟩;exact⟨h1,ae⟩
theorem LD(a b c:Int)(t:Bool)(w:World)(h:Hid (dw a b c=t)):Calls prog 160 #[a,b,c] w λe w'=>e=.returned (.bool t)∧w=w':=
 (Oi a b c w).mono λ_ _ ⟨h1,h2⟩=>⟨NY,h2⟩
theorem azN(v:Value)(l:List mo)(t:Bool)(w:World)(hv:aC Shape.trip w v l)(h:Hid (pR l=t)):Calls prog 161 #[v] w λe w'=>e=.returned (.bool t)∧BL w w':=
 (azM v l w hv).mono λ_ _ ⟨h1,h2⟩=>⟨NY,h2⟩
def UC(p:Int×Int)(w:World)(e:Ending)(w':World):Prop:=e=.returned (.tuple #[p.1,p.2])∧BL w w'
theorem adi(v:Value)(l:List iC)(w:World)(hv:aC Shape.sta w v l):Calls prog 104 #[v] w (UC (jU l) w):=by
 obtain⟨a,c,rfl,hc1,hc2⟩:=hv.shape;unfold maxLen at hc2;have HV:=U hv;clear hv;by_cases h32:32<l.length
 ·have g1:decide (32<l.length)=true:=adv;have g2:decide ((32:Int)<(l.length:Int))=true:=bC;have HF:=U (aAc h32);clear h32;go_enter func104,ntmps104;go_wp2;go_ret2;exact⟨vY,aB _ _⟩
 have g1:decide (32<l.length)=false:=adv;have g2:decide ((32:Int)<(l.length:Int))=false:=bC;have Vf:l.length≤32:=ae;clear h32;go_enter func104,ntmps104;go_wp2_with fail;clear g1 g2
 go_loopw [11] (λi wr=>∃k:Nat,k≤l.length∧i=.int .i64 k∧Hid (∀j,j<k→sQ l j=0)∧BL w wr) (λi _=>l.length-(intOf i).toNat)
 case atStart=>exact⟨0,ae,rfl,U (λj h=>ae),aB _ _⟩
 case round=>
  obtain⟨k,hk,rfl,HA,hb⟩:=hrel;by_cases hlt:k<l.length
  ·obtain⟨b1,o1,u,e1,c1,c2,c3,c4,hh⟩:=(HV.o.below hb).sta_at hlt;subst e1;have HH:=U hh;clear hh;obtain⟨t,ht⟩:∃t,(decide (1≤l[k].1∧l[k].1≤65535∧0≤l[k].2.1∧l[k].2.1≤2000∧0≤l[k].2.2.1∧l[k].2.2.1≤2000)&&(decide (k=0) || decide ((dH l (k-1)).1<l[k].1)))=t:=⟨_,rfl⟩;obtain⟨q,hq⟩:=nm (pR l[k].2.2.2);have HC:=U (aAb (t:=t) (q:=q) (Sn hlt) rfl ht hq.o)
   have HP:Hid (k≠0→∃b2 o2,(some ⟨b1,o1,none⟩:Option Addr)=some ⟨b2,o2,none⟩∧wr.cell? ⟨b2,o2+(k-1)*4,none⟩=some (.int .i64 (dH l (k-1)).1)):=λh0=>by
    obtain⟨b2,o2,_,e2,p1,_⟩:=(HV.o.below hb).sta_at (k:=k-1) ae;exact⟨b2,o2,e2,by rw[Sn ae];exact p1⟩
   obtain⟨uo,un,uc,rfl⟩:∃uo un uc,u=.slice uo un uc:=by obtain⟨uo,uc,e,_⟩:=HH.o.shape;exact⟨_,_,_,e⟩
   have hbw:=fe _ _ c1;dsimp only at hbw;have HT:=U ht;clear ht;generalize l[k].2.2.2=hs at *;generalize l[k].2.2.1=y at *;generalize l[k].2.1=x at *;generalize l[k].1=id at *;generalize (dH l (k-1)).1=p at *;have i1:(0:Int)≤(k:Int):=ae;have i2:(k:Int)<l.length:=ae;have B0:=U (Bl.alloc hb (.cells #[id,x,y,.slice uo un uc] 85));have JC:Hid (t=false→jU l=(50,(k:Int))):=λh=>am0 Vf hlt HA.o (by rw[HC.o,h];rfl) ae;obtain⟨t1,h1⟩:∃t,Hid (dw id 1 65535=t):=⟨_,rfl⟩;obtain⟨t2,h2⟩:∃t,Hid (dw x 0 2000=t):=⟨_,rfl⟩;obtain⟨t3,h3⟩:∃t,Hid (dw y 0 2000=t):=⟨_,rfl⟩;have T1:Hid (t1=false→t=false):=λh=>by have:=h1.o;rw[←HT.o];simp[dw,h]at this ⊢;omega
   have T2:Hid (t2=false→t=false):=λh=>by have:=h2.o;rw[←HT.o];simp[dw,h]at this ⊢;omega
   have T3:Hid (t3=false→t=false):=λh=>by have:=h3.o;rw[←HT.o];simp[dw,h]at this ⊢;omega
   cases t1
   ·have HF:=U (JC.o (T1.o rfl));go_wp2_with (go_at_call 160;refine(LD _ _ _ _ _ h1).mono ?_;rintro e w' ⟨rfl,rfl⟩)
    go_ret2;exact⟨vY,B0.o⟩
   have TB:Hid ((k≠0∧id≤p)→t=false):=λh=>by rw[←HT.o,aeh];right;simp;omega
   have GOOD:Hid (¬(k≠0∧id≤p)→t2=true→t3=true→t=true):=λh a b=>by
    have e1:=h1.o;have e2:=h2.o;have e3:=h3.o;subst a b;rw[←HT.o];simp[dw]at e1 e2 e3 ⊢;omega
   go_wp2_with (go_at_call 160;refine(LD _ _ _ _ _ h1).mono ?_;rintro e w' ⟨rfl,rfl⟩)
   go_cut [16]from 21 to 33 (λs16 wx=>s16=.bool (decide (k≠0∧id≤p))∧Below (wr.alloc (.cells #[id,x,y,.slice uo un uc] 85)).heap.size (wr.alloc (.cells #[id,x,y,.slice uo un uc] 85)) wx)
   case first=>
    clear HC JC T1 T2 T3 TB GOOD;by_cases hk0:k=0
    ·have z2:decide (0<k)=false:=bC;have z3:decide ((0:Int)<(k:Int))=false:=bC;have HD:Hid (false=decide (k≠0∧id≤p)):=by rw[Hid,hk0];simp
     clear hk0 HP
     go_big_quiet (fail)
     go_wp2;go_meet;exact⟨gQ Value.bool HD.o,Bl.drewN (aB _ _) _⟩
    ·obtain⟨b2,o2,e2,p1⟩:=HP.o hk0;cases e2;have z2:decide (0<k)=true:=bC;have z3:decide ((0:Int)<(k:Int))=true:=bC;have y1:IntKind.i64.wrap ((k:Int)-1)=(k:Int)-1:=dE _ ae;have y2:(0:Int)≤(k:Int)-1:=ae;have y3:(k:Int)-1<l.length:=ae;have y4:((k:Int)-1).toNat=k-1:=ae;have HD:Hid (decide (id≤p)=decide (k≠0∧id≤p)):=by rw[Hid,decide_eq_decide];exact⟨λh=>⟨hk0,h⟩,λh=>h.2⟩
     have hne:¬b1=wr.heap.size:=ae;clear hk0 HP
     go_big_quiet (fail)
     go_wp2;go_meet;exact⟨gQ Value.bool HD.o,Bl.drewN (aB _ _) _⟩
   case rest=>
    obtain⟨rfl,hbc⟩:=hcut;have f0:=(hbc.cell (p:=⟨wr.heap.size,0,none⟩) aj).trans (Gg (k:=0) rfl);have f1:=(hbc.cell (p:=⟨wr.heap.size,1,none⟩) aj).trans (Gg (k:=1) rfl);have f2:=(hbc.cell (p:=⟨wr.heap.size,2,none⟩) aj).trans (Gg (k:=2) rfl);have f3:=(hbc.cell (p:=⟨wr.heap.size,3,none⟩) aj).trans (Gg (k:=3) rfl);have B1:=U (Bl.call B0.o hbc);have HH2:=U (HH.o.below (ru hbc));clear hbc c1 c2 c3 c4 HP;by_cases hB:k≠0∧id≤p
    ·have dB:decide (k≠0∧id≤p)=true:=by simpa using hB
     have HF:=U (JC.o (TB.o hB));rw[dB];clear hB;go_wp2;go_ret2;exact⟨vY,B1.o⟩
    have dB:decide (k≠0∧id≤p)=false:=by rw[Gi];exact hB
    have G2:=U (GOOD.o hB);rw[dB];clear hB;cases t2
    ·have HF:=U (JC.o (T2.o rfl));go_wp2_with (go_at_call 160;refine(LD _ _ _ _ _ h2).mono ?_;rintro e w' ⟨rfl,rfl⟩)
     go_ret2;exact⟨vY,B1.o⟩
    cases t3
    ·have HF:=U (JC.o (T3.o rfl));go_wp2_with (first|(go_at_call 160;with_reducible refine(LD _ _ _ _ _ h2).mono ?_;rintro e w' ⟨rfl,rfl⟩)|(go_at_call 160;with_reducible refine(LD _ _ _ _ _ h3).mono ?_;rintro e w' ⟨rfl,rfl⟩)|fail)
     go_ret2;exact⟨vY,B1.o⟩
    have HG:=U (G2.o rfl rfl);go_wp2_with (first|(go_at_call 160;with_reducible refine(LD _ _ _ _ _ h2).mono ?_;rintro e w' ⟨rfl,rfl⟩)|(go_at_call 160;with_reducible refine(LD _ _ _ _ _ h3).mono ?_;rintro e w' ⟨rfl,rfl⟩)|fail)
    refine(azN _ hs q _ HH2.o hq).mono ?_;rintro e w2 ⟨rfl,hb2⟩;have B2:=U (Bl.call B1.o hb2);cases q
    ·have HF:Hid (jU l=(51,(k:Int))):=U (am0 Vf hlt HA.o (by rw[HC.o,HG.o];rfl) ae);go_wp2;go_ret2;exact⟨vY,B2.o⟩
    ·go_wp2;go_roundw
     case rel=>exact⟨k+1,ae,aY,U (λj hj=>by
      by_cases e:j=k
      ·subst e;rw[HC.o,HG.o];rfl
      ·exact HA.o j ae),B2.o⟩
     case measure=>exact aFF
  ·have HF:=U (amZ Vf λj hj=>HA.o j ae);go_wp2;go_ret2;exact⟨vY,hb⟩
end
theorem aAd{l:List iC}{id t:Int}(h:(jU l).1=t)(ht:t≠0):sS l id=(0,t):=by unfold sS;rw[h,if_pos ht]
theorem isNaN(a:Int)(w:World):Calls prog 260 #[a] w λe w'=>e=.returned (.bool false)∧w=w':=by
 go_enter func260,ntmps260;go_wp2;go_ret;exact⟨bu aj,rfl⟩
def xZ(a b:Int):Int:=if a<b then -1 else if b<a then 1 else 0
theorem compare(a b:Int)(w:World):Calls prog 197 #[a,b] w λe w'=>e=.returned (.int .i64 (xZ a b))∧w=w':=by
 go_enter func197,ntmps197;go_wp2_with (go_at_call 260;refine(isNaN _ _).mono ?_;rintro e w' ⟨rfl,rfl⟩)
 all_goals
  go_ret;exact⟨gW (by unfold xZ;first|(rw[if_pos ae];done)|(rw[if_neg ae,if_pos ae];done)|(rw[if_neg ae,if_neg ae];done)),rfl⟩
theorem arP{a:Int}:(xZ a b==0)=decide (a=b):=by
 unfold xZ;rw[DK];split
 ·exact bC
 ·split
  ·exact bC
  ·exact bC
theorem az1(x y z id:Int)(v:Value)(w:World):Calls prog 196 #[.agg #[x,y,z,v],id] w λe w'=>e=.returned (.int .i64 (xZ x id))∧BL w w':=by
 go_enter func196,ntmps196;go_wp2_with (go_at_call 197;refine(compare _ _ _).mono ?_;rintro e w' ⟨rfl,rfl⟩)
 go_ret;exact⟨rfl,Bl.alloc (aB _ _) _⟩
theorem arf{w:World}{o:Obj}{p:Addr}(h:w.cell? p=some v):(w.alloc o).cell? p=some v:=((Bl.alloc (aB w.heap.size w) o).cell (fe w p h)).trans h
def agv(g:Nat)(lb:Array Value)(p:iC→Bool)(w:World):Prop:=
 ∀W x v,BL w W→Calls prog g (#[.agg #[.int .i64 x.1,.int .i64 x.2.1,.int .i64 x.2.2.1,v]]++lb) W λe w'=>e=.returned (.bool (p x))∧BL W w'
theorem avC(v:Value)(xs:List iC)(g:Nat)(lb:Array Value)(p:iC→Bool)(w:World)(hv:aC Shape.sta w v xs)(he:Enters prog g)(hg:agv g lb p w):
  Calls prog 258 #[v,.func (.func g) #[] lb] w λe w'=>e=.returned (.int .i64 (fw p xs))∧BL w w':=by
 obtain⟨a,c,rfl,hc1,hc2⟩:=hv.shape;unfold maxLen at hc2;have HG:=U hg;clear hg;have he':∀(args:Array Value) (w:World),(callFunc g args).run prog w=.ok (.enter g args) w:=he;clear he;go_enter func258,ntmps258;go_wp2
 go_loopw [8] (λi wr=>∃k:Nat,k≤xs.length∧i=.int .i64 k∧BL w wr∧Hid (∀j,(hj:j<xs.length)→j<k→p xs[j]=false)) (λi _=>xs.length-(intOf i).toNat)
 case atStart=>exact⟨0,ae,rfl,aB _ _,λj _ hj=>ae⟩
 case round=>
  obtain⟨k,hk,rfl,hb,HN⟩:=hrel;by_cases hlt:k<xs.length
  ·obtain⟨b,o,u,rfl,c1,c2,c3,c4,hh⟩:=(hv.below hb).sta_at hlt;go_wp2_with fail;refine(HG.o _ xs[k] u hb).mono ?_;rintro e w1 ⟨rfl,hb1⟩;cases hp:p xs[k]
   ·have HP:=U hp;clear hp;go_wp2;go_roundw
    case rel=>
     refine⟨k+1,ae,aY,Bl.call hb hb1,λj h1 hj=>?_⟩;by_cases e:j=k
     ·exact aFG
     ·exact HN.o j h1 ae
    case measure=>exact aFF
   ·have HF:Hid (fw p xs=k):=IY hlt hp HN.o;clear hp;go_wp2;go_ret;exact⟨gW HF.o.symm,Bl.call hb hb1⟩
  ·have HF:Hid (fw p xs=-1):=IZ (λj h1=>HN.o j h1 ae);go_wp2;go_ret;exact⟨gW HF.o.symm,hb⟩
theorem az2(w:World)(B4 B5:Nat)(id:Int)(h4:w.cell? ⟨B4,0,none⟩=some (.int .i64 id))(h5:w.cell? ⟨B5,0,none⟩=some (.func (.func 196) #[] #[])):
  agv 259 #[.pointer (some ⟨B5,0,none⟩),.pointer (some ⟨B4,0,none⟩)] (λs=>decide (s.1=id)) w:=by
 intro W x v hb;obtain⟨x,y,z,hs⟩:=x;have l4:=fe w _ h4;have l5:=fe w _ h5;dsimp only at l4 l5;have c4:=(hb.cell (p:=⟨B4,0,none⟩) l4).trans h4;have c5:=(hb.cell (p:=⟨B5,0,none⟩) l5).trans h5;have m4:=fe W _ c4;have m5:=fe W _ c5;dsimp only at m4 m5;have n4:¬B4=W.heap.size:=ae;have n5:¬B5=W.heap.size:=ae;have he:Enters prog 196:=fo func196 aF rfl;have he':∀(args:Array Value) (w:World),(callFunc 196 args).run prog w=.ok (.enter 196 args) w:=he;clear he;go_enter func259,ntmps259;go_wp2_with (go_at_call 196;refine(az1 _ _ _ _ _ _).mono ?_;rintro e w' ⟨rfl,hbs⟩)
 go_ret;exact⟨bu arP,ru hbs⟩
theorem avv{l:List iC}{id:Int}(h0:(jU l).1=0):sS l id=if fw (λs=>decide (s.1=id)) l<0 then(0,50)else(fw (λs=>decide (s.1=id)) l,0):=by
 unfold sS fw;rw[aD (by simp[h0])]
 cases l.findIdx? λs=>decide (s.1=id)with
 |none=>simp
 |some k=>simp
theorem sought(v:Value)(l:List iC)(id:Int)(w:World)(hv:aC Shape.sta w v l):
  Calls prog 195 #[v,id,.func (.func 196) #[] #[]] w λe w'=>e=.returned (.int .i64 (fw (λs=>decide (s.1=id)) l))∧BL w w':=by
 obtain⟨a,c,rfl,hc1,hc2⟩:=hv.shape;have HV:=U hv;clear hv;go_enter func195,ntmps195;go_wp2_with fail;refine(avC _ l _ _ (λs=>decide (s.1=id)) _ (HV.o.below (Bl.alloc (Bl.alloc (aB _ _) _) _)) (fo func259 aF rfl) (az2 _ _ _ id ?_ ?_)).mono ?_
 ·exact arf (Gg rfl)
 ·simp
 rintro e w1 ⟨rfl,hb⟩;go_wp2;go_ret;exact⟨rfl,ru (ru hb)⟩
theorem amA(v:Value)(l:List iC)(e i:Int)(w:World)(hv:aC Shape.sta w v l)(h:Hid (jU l=(e,i))):Calls prog 104 #[v] w (UC (e,i) w):=by
 rw[←h.o];exact adi v l w hv
theorem az4(v:Value)(l:List iC)(id q:Int)(w:World)(hv:aC Shape.sta w v l)(h:Hid (fw (λs=>decide (s.1=id)) l=q)):
  Calls prog 195 #[v,id,.func (.func 196) #[] #[]] w λe w'=>e=.returned (.int .i64 q)∧BL w w':=by
 rw[←h.o];exact sought v l id w hv
theorem sof(v:Value)(l:List iC)(id:Int)(w:World)(hv:aC Shape.sta w v l):Calls prog 137 #[v,id] w (UC (sS l id) w):=by
 obtain⟨a,c,rfl,hc1,hc2⟩:=hv.shape;have HV:=U hv;clear hv;obtain⟨e0,i0,h⟩:∃e i,Hid (jU l=(e,i)):=⟨_,_,U rfl⟩;have h1:(jU l).1=e0:=by rw[h.o]
 by_cases h0:e0=0
 ·subst h0;obtain⟨q,hq⟩:=nm (fw (λs:iC=>decide (s.1=id)) l);have HF:Hid (sS l id=if q<0 then(0,50)else(q,0)):=by rw[Hid,avv h1,hq.o]
  clear h1;go_enter func137,ntmps137;go_wp2_with fail;refine(amA _ l _ _ _ HV.o h).mono ?_;rintro e w1 ⟨rfl,hb1⟩;go_wp2_with fail;refine(az4 _ l id q _ (HV.o.below hb1) hq).mono ?_;rintro e w2 ⟨rfl,hb2⟩;have B2:=U (Bl.call hb1 hb2);clear hb1 hb2;by_cases h3:q<0
  ·have g3:decide (q<0)=true:=EU;have HG:Hid (sS l id=(0,50)):=by rw[Hid,HF.o,aG h3]
   clear h3;go_wp2;go_ret2;exact⟨by rw[HG.o];rfl,B2.o⟩
  ·have g3:decide (q<0)=false:=EU;have HG:Hid (sS l id=(q,0)):=by rw[Hid,HF.o,aD h3]
   clear h3;go_wp2;go_ret2;exact⟨by rw[HG.o];rfl,B2.o⟩
 ·have HF:=U (aAd (id:=id) h1 h0);have d1:(e0 != 0)=true:=Jk;clear h0 h1;go_enter func137,ntmps137;go_wp2_with fail;refine(amA _ l _ _ _ HV.o h).mono ?_;rintro e w1 ⟨rfl,hb1⟩;go_wp2;go_ret2;exact⟨vY,hb1⟩
def iN(ps:List Sp):List Value:=ps.flatMap λx=>[x.1,x.2]
theorem U8:∀(ps:List Sp) (k:Nat),(hk:k<ps.length)→(iN ps)[k*2]?=some (.int .i64 ps[k].1)∧(iN ps)[k*2+1]?=some (.int .i64 ps[k].2)
 |x::xs,0,_=>by simp[iN]
 |x::xs,k+1,hk=>by
  have:=U8 xs k BC;simp only[iN,jN,Hz]at this ⊢;refine⟨?_,?_⟩
  ·rw[show(k+1)*2=k*2+1+1 from ae];simpa using this.1
  ·rw[show(k+1)*2+1=k*2+1+1+1 from ae];simpa using this.2
theorem as4(xs:List Sp)(a b:Int):iN (xs++[(a,b)])=iN xs++[.int .i64 a,.int .i64 b]:=by simp[iN]
theorem as5(xs ys:List Sp):iN (xs++ys)=iN xs++iN ys:=by simp[iN]
theorem U9(xs:List Sp):(iN xs).length=xs.length*2:=by
 induction xs with
 |nil=>rfl
 |cons x xs ih=>simp[iN]at ih ⊢;omega
theorem zu:(prog.info? 41).map (λi=>(i.zero,i.size,i.bytes))=some (some (.agg #[.int .i64 0,.int .i64 0]),2,16):=aF
theorem ari(w:World)(x y:Value)(t:TypeId):∀j u,[x,y][j]?=some u→(w.alloc (.cells #[x,y] t)).cell? ((⟨w.heap.size,0,none⟩:Addr).add j)=some u:=by
 intro j u hj
 match j,hj with
 |0,hj=>simp at hj;subst hj;simp[Addr.add]
 |1,hj=>simp at hj;subst hj;simp[Addr.add]
abbrev bG(base:Nat)(w:World)(v:Value)(xs:List Sp):Prop:=w.ownsRow base 41 2 v xs.length (iN xs)
theorem jT{w:World}{xs:List Sp}(h:bG base w v xs):aC Shape.span w v xs:=by
 have h':=h;obtain⟨hl,h2⟩:=h;rcases h2 with⟨rfl,h0⟩|⟨g,cap,cur,rfl,hg,hh,hn,hc,hs,ht⟩
 ·have:xs=[]:=jo ae;subst this;exact aC.nil
 ·refine⟨_,_,rfl,hn,hc,λ_=>⟨g,0,rfl,(h'.lt g rfl).2,trivial,λk hk=>?_⟩⟩;obtain⟨f1,f2⟩:=U8 xs k hk;have g1:=h'.cellAt (k*2) ae;have g2:=h'.cellAt (k*2+1) ae;refine⟨_,mE.2 rfl,λj hj=>?_⟩;simp only[oJ];have hj:j<2:=hj
  match j,hj with
  |0,_=>show w.cell? ⟨g,k*2+0,none⟩=_;rw[oI,g1];simp[f1]
  |1,_=>show w.cell? ⟨g,k*2+1,none⟩=_;rw[g2];simp[f2]
theorem fq{w:World}{xs:List Sp}(h:bG base w v xs)(hb:BL w w'):bG base w' v xs:=gV h hb
section
variable {w w4 a:World} {o:Obj} {v:Value} {base size n:Nat} {e:TypeId} {xs:List Value}
theorem MK(hO:w.ownsRow base e size v n xs)(hg:(w.alloc o).grownBy w4 v.ownBlock)(hb:BL a w)(hB:a.heap.size≤base):BL a w4:=
 gJ (Bl.alloc hb _) hg (by simp only[fH];have:=hb.size;omega) (λj hj=>by have:=(hO.lt j hj).1;omega)
theorem wW{x:Int}{m:Nat}(ho:w4.ownsRow base 41 2 v' m (iN ys++[.int .i64 x,.int .i64 y]))(hm:m=ys.length+1):bG base w4 v' (ys++[(x,y)]):=by
 unfold bG;rw[as4,List.length_append,List.length_singleton];subst hm;exact ho
end
theorem oU{size n:Nat}{w:World}{xs:List Value}(h:w.ownsRow base e size v n xs){p:Addr}(hp:p.block<base)(u:Value):(w.setCell p u).ownsRow base e size v n xs:=by
 refine⟨h.1,?_⟩;rcases h.2 with hn|⟨g,cap,cur,rfl,hb,hgg,rest⟩
 ·exact .inl hn
 ·refine .inr ⟨g,cap,cur,rfl,hb,?_,rest⟩;rw[JD _ _ _ _ ae];exact hgg
theorem WX(f:α→β){l:List α}(hk:k<l.length):(l.take (k+1)).map f=(l.take k).map f++[f l[k]]:=by
 rw[jF hk,iT];rfl
theorem ail(f:β→α→β)(b:β){l:List α}(hk:k<l.length):(l.take (k+1)).foldl f b=f ((l.take k).foldl f b) l[k]:=by
 rw[jF hk,Mv];rfl
theorem xh{s:Shape α}{enc:α→List Value}{P:Nat→Prop}{w:World}{xs:List α}(hp:Plain s enc)(h:aC s w v xs)(hk:∀k,v.ownBlock=some k→P k):s.list.reads P w [v] xs:=by
 obtain⟨a,c,h,h1,h2,h3⟩:=h;refine⟨a,c,h,h1,h2,λh0=>?_⟩;obtain⟨b,o,e,hb,_,hr⟩:=h3 h0;simp only[oC,qZ]at h;subst h;subst e;refine⟨b,o,rfl,hb,hk b rfl,λk hk=>?_⟩;obtain⟨cs,g1,g2⟩:=hr k hk;exact⟨cs,hp.2 (hp.1 g1),g2⟩
theorem kJ{w:World}{e size:Nat}{n:Nat}{xs:List Value}(h:w.ownsRow base e size v n xs)(hb:base'≤base):w.ownsRow base' e size v n xs:=by
 refine⟨h.1,?_⟩;rcases h.2 with hn|⟨g,cap,cur,rfl,hb',rest⟩
 ·exact .inl hn
 ·exact .inr ⟨g,cap,cur,rfl,fK hb hb',rest⟩
theorem aic:∀(xs:List Sp) (k:Nat) (a:Int) (hk:k<xs.length),(iN xs).set (k*2) (.int .i64 a)=iN (xs.set k (a,xs[k].2))
 |x::xs,0,a,_=>by simp[iN]
 |x::xs,k+1,a,hk=>by
  have:=aic xs k a BC;simp only[iN,jN,Hz,Ed]at this ⊢;rw[show(k+1)*2=k*2+1+1 from ae];simp only[gB,fE,Ed,this]
theorem aid:∀(xs:List Sp) (k:Nat) (a:Int) (hk:k<xs.length),(iN xs).set (k*2+1) (.int .i64 a)=iN (xs.set k (xs[k].1,a))
 |x::xs,0,a,_=>by simp[iN]
 |x::xs,k+1,a,hk=>by
  have:=aid xs k a BC;simp only[iN,jN,Hz,Ed]at this ⊢;rw[show(k+1)*2+1=k*2+1+1+1 from ae];simp only[gB,fE,Ed,this]
theorem Bq{w:World}{xs:List Sp}(h:bG base w v xs)(hk:k<xs.length):∃g cap,v=.slice (some ⟨g,0,none⟩) xs.length cap∧base≤g∧g<w.heap.size∧xs.length≤cap∧cap≤maxLen∧
  w.cell? ⟨g,k*2,none⟩=some (.int .i64 xs[k].1)∧w.cell? ⟨g,k*2+1,none⟩=some (.int .i64 xs[k].2)∧(∀j,w.frozen? ⟨g,j,none⟩=false)∧
  (∀a,bG base (w.setCell ⟨g,k*2,none⟩ (.int .i64 a)) v (xs.set k (a,xs[k].2)))∧(∀a,bG base (w.setCell ⟨g,k*2+1,none⟩ (.int .i64 a)) v (xs.set k (xs[k].1,a))):=by
 have h':=h;obtain⟨hl,h2⟩:=h;rcases h2 with⟨rfl,h0⟩|⟨g,cap,cur,rfl,hg,hh,hn,hc,hs,ht⟩
 ·omega
 ·obtain⟨f1,f2⟩:=U8 xs k hk;have g1:=h'.cellAt (k*2) ae;have g2:=h'.cellAt (k*2+1) ae;refine⟨g,cap,rfl,hg,(h'.lt g rfl).2,hn,hc,by rw[g1];simp[f1],by rw[g2];simp[f2],λj=>h'.frozenAt j,λa=>?_,λa=>?_⟩
  ·have:=(h'.stored (k*2) (.int .i64 a)).1;rw[aic xs k a hk]at this;unfold bG;rw[qW];exact this
  ·have:=(h'.stored (k*2+1) (.int .i64 a)).1;rw[aid xs k a hk]at this;unfold bG;rw[qW];exact this
theorem axO{w:World}{n cap:Nat}{xs:List Sp}(h:bG base w (.slice (some ⟨g,0,none⟩) n cap) xs)(hk:k<xs.length)(a:Int):bG base (w.setCell ⟨g,k*2,none⟩ (.int .i64 a)) (.slice (some ⟨g,0,none⟩) n cap) (xs.set k (a,xs[k].2)):=by
 obtain⟨g',cap',e,_,_,_,_,_,_,_,hs,_⟩:=Bq h hk;cases e;exact hs a
theorem K6{w:World}{n cap:Nat}{xs:List Sp}(h:bG base w (.slice (some ⟨g,0,none⟩) n cap) xs)(hk:k<xs.length)(a:Int):bG base (w.setCell ⟨g,k*2+1,none⟩ (.int .i64 a)) (.slice (some ⟨g,0,none⟩) n cap) (xs.set k (xs[k].1,a)):=by
 obtain⟨g',cap',e,_,_,_,_,_,_,_,_,hs⟩:=Bq h hk;cases e;exact hs a
theorem axM{w:World}{n cap:Nat}{xs:List Sp}(h:bG base w (.slice (some ⟨g,0,none⟩) n cap) xs)(hk:k<xs.length):base≤g∧g<w.heap.size∧w.cell? ⟨g,k*2,none⟩=some (.int .i64 xs[k].1)∧w.cell? ⟨g,k*2+1,none⟩=some (.int .i64 xs[k].2)∧∀j,w.frozen? ⟨g,j,none⟩=false:=by
 obtain⟨g',cap',e,h1,h2,_,_,h3,h4,h5,_⟩:=Bq h hk;cases e;exact⟨h1,h2,h3,h4,h5⟩
theorem I1{s:Shape α}{enc:α→List Value}(hp:Plain s enc)(hn:0<s.n){w:World}{b:Nat}{xs:List α}(h:aC s w (.slice (some ⟨b,o,none⟩) xs.length c) xs):∀j u,(xs.flatMap enc)[j]?=some u→w.cell? ((⟨b,o,none⟩:Addr).add j)=some u:=by
 intro j u hj;have hlen:∀x∈xs,(enc x).length=s.n:=λx _=>s.len (A:=λ_=>True) (w:=w) (hp.2 rfl)
 have hfl:(xs.flatMap enc).length=xs.length*s.n:=by
  clear h hj
  induction xs with
  |nil=>simp
  |cons x xs ih=>simp only[jN,dn,dS,Aw,ih (λy hy=>hlen y (by simp[hy])),hlen x aj];omega
 have hjl:j<xs.length*s.n:=by
  have:=(gN.1 hj).1;omega
 have hq:j / s.n<xs.length:=Nat.div_lt_of_lt_mul (by rw[Nat.mul_comm];exact hjl);have hm:j % s.n<s.n:=Nat.mod_lt _ hn;have he:j=j / s.n*s.n+j % s.n:=by rw[Nat.mul_comm];exact(Nat.div_add_mod j s.n).symm
 obtain⟨b',o',e,hc⟩:=h.atP hp hq;cases e;have h1:=hc (j % s.n) hm;have h2:=M4 (css:=xs.map enc) (n:=s.n) (by simpa using hlen) (j / s.n) (j % s.n) Sk hm;rw[←he]at h2;simp only[lK]at h2;have h3:(xs.map enc).flatten=xs.flatMap enc:=by rw[List.flatMap]
 rw[h3,hj]at h2
 have ha:(⟨b,o,none⟩:Addr).add j=⟨b,o+j,none⟩:=by
  unfold Addr.add;by_cases h0:j=0
  ·simp[h0]
  ·simp[h0]
 rw[ha,show o+j=o+j / s.n*s.n+j % s.n from ae,h1,←h2]
theorem apo{w:World}{o:Oper}{size n:Nat}{xs:List Value}(hown:w.ownsRow base e size v n xs)(ad:Addr)(m c:Nat)(news:List Value){i:TypeInfo}{z:Value}{bytes:Nat}(hi:P.info? e=some i)(hz:i.zero=some z)(hsize:i.size=size)(hby:i.bytes=bytes)
  (h:∀v' w',w'.ownsRow base e size v' (n+m) (xs++news)→w.grownBy w' v.ownBlock→(v'=.slice none 0 0↔v=.slice none 0 0∧m=0)→wpList P ops Q rest (a.put o.dst v') w')
  {s x:Operand} {t:TypeId} (ho:o.op=.call { callee:=.builtin .append,args:=#[s,x],argTypes:=#[t,t] }:=by rfl) (hgd:o.guard=none:=by rfl) (ht:P.underlying t=some (.slice e):=by kernel_rfl) (hzs:z.cells.size=size:=by rfl) (hsz:0<size:=by decide) (hs:a.eval s=v:=by rfl) (hx:a.eval x=.slice (some ad) m c:=by rfl) (hl:news.length=m*size:=by rfl) (hnews:∀j u,news[j]?=some u→w.cell? (ad.add j)=some u:=by first|exact AP _ _ _|exact ari _ _ _ _) (h1:∀u∈news,u.oneCell'=true:=by simp[Value.oneCell']) (h63:n+m≤maxLen:=by first|(simp[maxLen];omega)|(unfold maxLen;omega)) (hbytes:(n+m)*bytes≤140737488355328:=by first|omega|(simp;omega)) (hbase:base≤w.heap.size:=by first|omega|(simp;omega)):wpList P ops Q (o::rest) a w:=
 mH w hgd s x t ho base e i z size bytes ht hi hz hsize hby hzs hsz v n xs hs hown ad m c news hx hl hnews h1 h63 hbytes hbase h
abbrev jd{α:Type}(e:TypeId)(n:Nat)(enc:α→List Value)(base:Nat)(w:World)(v:Value)(xs:List α):Prop:=w.ownsRow base e n v xs.length (xs.flatMap enc)
theorem as7(xs:List α)(f:α→List β):xs.flatMap f=(xs.map f).flatten:=by rw[List.flatMap]
section
variable {α:Type} {s:Shape α} {enc:α→List Value} {base e:Nat} {w w':World} {v:Value} {xs:List α}
theorem ax5(w:World)(hp:Plain s enc)(x:α):(enc x).length=s.n:=s.len (A:=λ_=>True) (w:=w) (hp.2 rfl)
theorem Di{n:Nat}(hx:xs=[]):jd e n enc base w (.slice none 0 0) xs:=by subst hx;exact nJ w base e n
theorem Ja(hp:Plain s enc)(h:jd e s.n enc base w v xs):aC s w v xs:=by
 have h':=h;obtain⟨hl,h2⟩:=h;rcases h2 with⟨rfl,h0⟩|⟨g,cap,cur,rfl,hg,hh,hn,hc,hs,ht⟩
 ·have:xs=[]:=jo ae;subst this;exact aC.nil
 ·refine⟨_,_,rfl,hn,hc,λ_=>⟨g,0,rfl,(h'.lt g rfl).2,trivial,λk hk=>⟨_,hp.2 rfl,λj hj=>?_⟩⟩⟩;have hf:=M4 (css:=xs.map enc) (n:=s.n) (by intro c hc;obtain⟨x,_,rfl⟩:=dz.1 hc;exact ax5 w hp x) k j BC hj;rw[←as7]at hf;simp only[lK]at hf
  have hlt:k*s.n+j<xs.length*s.n:=by
   have:(k+1)*s.n≤xs.length*s.n:=P7 _ hk;rw[Aw]at this;omega
  have g1:=h'.cellAt (k*s.n+j) hlt;simp only[oJ];rw[g1];exact hf
theorem il{n:Nat}(h:jd e n enc base w v xs)(hb:BL w w'):jd e n enc base w' v xs:=gV h hb
theorem xk{n:Nat}{x:α}{news:List Value}{m:Nat}(ho:w'.ownsRow base e n v' m (xs.flatMap enc++news))(hm:m=xs.length+1)(hx:news=enc x):jd e n enc base w' v' (xs++[x]):=by
 unfold jd;subst hx hm;rw[dn,Uo,mO,List.flatMap_singleton];exact ho
theorem EP{n:Nat}(h:jd e n enc base w v xs)(hb:base'≤base):jd e n enc base' w v xs:=kJ h hb
theorem lu{n:Nat}(h:jd e n enc base w v xs):∃a c,v=.slice a xs.length c:=by
 rcases h.2 with⟨rfl,h0⟩|⟨g,cap,cur,rfl,_⟩
 ·exact⟨none,0,by rw[h0]⟩
 ·exact⟨_,_,rfl⟩
theorem K5{n:Nat}{m:Nat}(hB:w.heap.size=B)(hb:base≤w.heap.size)(hm:m≤maxLen)(hl:cs.length=m*n)(hx:xs.length=m)(hc:cs=xs.flatMap enc):jd e n enc base (w.alloc (.cells cs.toArray e)) (.slice (some ⟨B,0,none⟩) m m) xs:=by
 subst hB;have:=MI (base:=base) (size:=n) (e:=e) w cs.toArray m hb hm (by simpa using hl);unfold jd;rw[hx,←hc];simpa using this
end
theorem aC.list_at{s:Shape α}{w:World}{a:Option Addr}{n:Nat}{xs:List (List α)}(h:aC s.list w (.slice a n c) xs)(hk:k<xs.length):
  ∃b o v,a=some ⟨b,o,none⟩∧b<w.heap.size∧w.cell? ⟨b,o+k,none⟩=some v∧aC s w v xs[k]:=by
 obtain⟨b,o,cs,e,hb,hr,hc⟩:=h.at hk;obtain⟨v,rfl,hv⟩:=EI.1 hr;refine⟨b,o,v,e,hb,?_,hv⟩;have:=hc 0 (show 0<1 from ae);have h1:s.list.n=1:=rfl;rw[h1]at this;simpa using this
theorem AP(w:World)(vs:List Value)(t:TypeId):∀j u,vs[j]?=some u→(w.alloc (.cells vs.toArray t)).cell? ((⟨w.heap.size,0,none⟩:Addr).add j)=some u:=by
 intro j u hj
 have ha:(⟨w.heap.size,0,none⟩:Addr).add j=⟨w.heap.size,j,none⟩:=by
  unfold Addr.add;by_cases h0:j=0
  ·simp[h0]
  ·simp[h0]
 rw[ha,(Bx.new (W:=w) (t:=t) (vs:=vs) rfl).cell j,hj]
theorem Xc{w:World}{xs:List (Int×Int×Int)}(h:CG w v xs):aC Shape.trip w v xs:=by
 obtain⟨a,c,rfl,h1,h2,h3⟩:=h;refine⟨a,c,rfl,h1,h2,λh0=>?_⟩;obtain⟨b,o,rfl,h4⟩:=h3 h0;have hb:=fe _ _ (h4 0 h0).1;refine⟨b,o,rfl,hb,trivial,λk hk=>⟨_,jC.2 rfl,λj hj=>?_⟩⟩;obtain⟨g1,g2,g3⟩:=h4 k hk;have hj:j<3:=hj
 match j,hj with
 |0,_=>exact g1
 |1,_=>exact g2
 |2,_=>exact g3
def CV(p:Int×Sp):List Value:=[.int .i64 p.1,.int .i64 p.2.1,.int .i64 p.2.2]
abbrev qF(e base:Nat)(w:World)(v:Value)(xs:List (Int×Sp)):Prop:=jd e 3 CV base w v xs
theorem Jb{e:Nat}{w:World}{xs:List (Int×Sp)}(h:qF e base w v xs):aC Shape.trip w v xs:=Ja (s:=Shape.trip) (enc:=CV) jC h
abbrev pK(e base:Nat)(w:World)(v:Value)(xs:List Int):Prop:=jd e 1 (λa=>[Value.int .i64 a]) base w v xs
theorem RG{e:Nat}{w:World}{xs:List Int}(h:pK e base w v xs):aC Shape.int w v xs:=Ja (s:=Shape.int) (enc:=λa=>[Value.int .i64 a]) yD h
theorem aC1(w:World)(a b:Value):(Instr.field 41 (.agg #[a,b]) 0).run prog w=.ok a w:=aF
theorem aC2(w:World)(a b:Value):(Instr.field 41 (.agg #[a,b]) 1).run prog w=.ok b w:=aF
structure aA(own:Nat→Prop)(A B:World):Prop where
 os:B.os=A.os
 tape:B.tape=A.tape
 output:B.output=A.output
 size:A.heap.size≤B.heap.size
 block:∀k,k<A.heap.size→¬own k→B.heap[k]?=A.heap[k]?
theorem aA.refl(own:Nat→Prop)(A:World):aA own A A:=⟨rfl,rfl,rfl,aV _,λ_ _ _=>rfl⟩
theorem aA.trans{own:Nat→Prop}{A B C:World}(h:aA own A B)(k:aA own B C):aA own A C:=
 ⟨k.os.trans h.os,k.tape.trans h.tape,k.output.trans h.output,fK h.size k.size,λi hi ho=>(k.block i (nH hi h.size) ho).trans (h.block i hi ho)⟩
theorem aA.mono{own own':Nat→Prop}{A B:World}(h:aA own A B)(hw:∀k,own k→own' k):aA own' A B:=⟨h.os,h.tape,h.output,h.size,λk hk ho=>h.block k hk (λx=>ho (hw k x))⟩
theorem aA.putObj(W:World)(l:Nat)(o:Obj):aA (λk=>k=l) W (W.putObj l o):=
 ⟨rfl,rfl,rfl,aj,λk _ hk=>tZ hk⟩
theorem aA.of_below{own:Nat→Prop}{A B:World}(h:BL A B):aA own A B:=⟨h.os,h.tape,h.output,h.size,λk hk _=>h.block k hk⟩
theorem aA.setCell(own:Nat→Prop)(W:World)(p:Addr)(v:Value)(h:own p.block):aA own W (W.setCell p v):=
 ⟨rfl,rfl,rfl,ado,λk _ hk=>JD _ _ _ _ (λe=>hk (by rw[e];exact h))⟩
theorem aA.below{own:Nat→Prop}{a:World}(h:Below B a W)(t:aA own W W')(hB:B≤W.heap.size)(ho:∀k,own k→B≤k):Below B a W':=
 h.trans ⟨t.os,t.tape,t.output,t.size,λk hk=>t.block k ae (λx=>by have:=ho k x;omega)⟩
def nI(w:World)(v v':Value):Prop:=v'.ownBlock=v.ownBlock∨∃k,v'.ownBlock=some k∧w.heap.size≤k
section
variable {P:Program} (w:World)
theorem al4(base:Nat)(t ty e:TypeId)(i:TypeInfo)(z:Value)(size bytes:Nat)(ht:P.underlying t=some (.slice e))(hi:P.info? e=some i)(hz:i.zero=some z)
  (hsize:i.size=size) (hby:i.bytes=bytes) (hzs:z.cells.size=size) (hsz:0<size)
  (v:Value) (n:Nat) (xs:List Value) (hown:w.ownsRow base e size v n xs)
  (a:Addr) (m c:Nat) (news:List Value) (hl:news.length=m*size) (hnews:∀j u,news[j]?=some u→w.cell? (a.add j)=some u) (h1:∀u∈news,u.oneCell'=true)
  (h63:n+m≤maxLen) (hbytes:(n+m)*bytes≤140737488355328) (hbase:base≤w.heap.size) :
  ∃v' w',(Builtin.append_ #[t,t] ty #[v,.slice (some a) m c]).run P w=.ok v' w'∧w'.ownsRow base e size v' (n+m) (xs++news)∧w.grownBy w' v.ownBlock∧
   (v'=.slice none 0 0↔v=.slice none 0 0∧m=0)∧nI w v v':=by
 obtain⟨v',w',hr,h2,h3,h4⟩:=run_append_own (P:=P) w base t ty e i z size bytes ht hi hz hsize hby hzs hsz v n xs hown a m c news hl hnews h1 h63 hbytes hbase;refine⟨v',w',hr,h2,h3,h4,?_⟩;rcases hown.2 with⟨rfl,rfl⟩|⟨g,cap,cur,rfl,hbg,hg,hnc,hcm,hcs,htake⟩
 ·have hx:xs=[]:=jo (by simpa using hown.1);subst hx;obtain⟨v2,w2,hr2,k2,_,_⟩:=run_append_own (P:=P) w w.heap.size t ty e i z size bytes ht hi hz hsize hby hzs hsz _ 0 [] (nJ w _ e size) a m c news hl hnews h1 h63 hbytes (aV _);rw[hr]at hr2;obtain⟨rfl,rfl⟩:=(by simpa using hr2:v'=v2∧w'=w2)
  cases hb:v'.ownBlock with
  |none=>exact .inl hb
  |some k=>exact .inr ⟨k,hb,(k2.lt k hb).1⟩
 ·by_cases hroom:n+m≤cap
  ·have hfit:n*i.size+news.length≤cur.size:=by rw[hl,hcs,←hsize,←Zy];exact P7 _ hroom
   have hr2:=run_append_room (P:=P) w t ty e i ht hi g n cap cur hg a m c news (by rw[hl,hsize]) hnews h1 hroom hfit;rw[hr]at hr2;have e1:v'=.slice (some ⟨g,0,none⟩) (n+m) cap:=(by simpa using hr2:_∧_).1;subst e1;exact .inl rfl
  ·have holds:∀j u,xs[j]?=some u→w.cell? ((⟨g,0,none⟩:Addr).add j)=some u:=hown.cells (g:=g) rfl;have hr2:=run_append_grow (P:=P) w t ty e i z ht hi hz ⟨g,0,none⟩ n cap xs (by rw[hown.1,hsize]) holds a m c news (by rw[hl,hsize]) hnews ae (by simp only[maxLen]at h63;omega) (aiz ae (by rw[hby];exact hbytes));rw[hr]at hr2;have e1:=(by simpa using hr2:_∧_).1;subst e1;exact .inr ⟨_,rfl,aV _⟩
end
section
variable {P:Program} (w:World)
theorem Xq{o:Oper}(hgd:o.guard=none)(s x:Operand)(t:TypeId)
  (ho:o.op=.call { callee:=.builtin .append,args:=#[s,x],argTypes:=#[t,t] })
  (base:Nat) (e:TypeId) (i:TypeInfo) (z:Value) (size bytes:Nat) (ht:P.underlying t=some (.slice e)) (hi:P.info? e=some i) (hz:i.zero=some z)
  (hsize:i.size=size) (hby:i.bytes=bytes) (hzs:z.cells.size=size) (hsz:0<size)
  (v:Value) (n:Nat) (xs:List Value) (hs:a.eval s=v) (hown:w.ownsRow base e size v n xs)
  (ad:Addr) (m c:Nat) (news:List Value) (hx:a.eval x=.slice (some ad) m c) (hl:news.length=m*size) (hnews:∀j u,news[j]?=some u→w.cell? (ad.add j)=some u) (h1:∀u∈news,u.oneCell'=true)
  (h63:n+m≤maxLen) (hbytes:(n+m)*bytes≤140737488355328) (hbase:base≤w.heap.size)
  (h:∀v' w',w'.ownsRow base e size v' (n+m) (xs++news)→w.grownBy w' v.ownBlock→nI w v v'→wpList P ops Q rest (a.put o.dst v') w'):wpList P ops Q (o::rest) a w:=by
 refine Jv hgd λK hK=>?_;obtain⟨v',w',hrun,r1,r2,_,r4⟩:=al4 (P:=P) w base t o.type e i z size bytes ht hi hz hsize hby hzs hsz v n xs hown ad m c news hl hnews h1 h63 hbytes hbase;unfold Oper.wp execOp;simp only[ho,resolve,invoke,builtin,wU,Ke,AB,PY,oG,Av,hs,hx,hrun];exact hK _ _ (h v' w' r1 r2 r4)
end
theorem aA.grown{own:Nat→Prop}{A B:World}{row:Option Nat}(hg:A.grownBy B row)(ho:∀k,row=some k→own k):aA own A B:=
 ⟨hg.os,hg.tape,hg.output,hg.size,λk hk hn=>hg.block k hk (λe=>hn (ho k e.symm))⟩
theorem aA.alloc(own:Nat→Prop)(A:World)(o:Obj):aA own A (A.alloc o):=aA.of_below (Bl.alloc (aB _ _) o)
theorem aA.drewN(own:Nat→Prop)(A:World)(n:Nat):aA own A (A.drewN n):=aA.of_below (Bl.drewN (aB _ _) n)
theorem aA.same{own A':Nat→Prop}{A B:World}(h:aA own A B)(ha:∀b,A' b→b<A.heap.size→¬own b):Same A' A B:=⟨h.size,λb hb hl=>h.block b hl (ha b hb hl)⟩
theorem aA.lst{own:Nat→Prop}{A B:World}{s:Shape α}{xs:List α}(h:aA own A B)(hv:s.list.reads (λb=>¬own b) A [v] xs):s.list.reads (λb=>¬own b) B [v] xs:=s.list.keep hv (h.same λ_ hb _=>hb)
theorem Bx.turns{own:Nat→Prop}{b:Nat}{A B:World}(h:Bx b vs A)(t:aA own A B)(hb:¬own b):Bx b vs B:=
 ⟨nH h.lt t.size,λj=>(iL (t.block b h.lt hb)).trans (h.cell j),λj=>by
  have:=h.free j;unfold World.frozen? at this ⊢
  rw[t.block b h.lt hb];exact this⟩
theorem fO{own:Nat→Prop}{size n:Nat}{A B:World}{xs:List Value}(h:A.ownsRow base e size v n xs)(t:aA own A B)(hv:∀k,v.ownBlock=some k→¬own k):B.ownsRow base e size v n xs:=by
 refine⟨h.1,?_⟩;rcases h.2 with hn|⟨g,cap,cur,rfl,hb,hg,rest⟩
 ·exact .inl hn
 ·have hlt:=(nu.1 hg).1;exact .inr ⟨g,cap,cur,rfl,hb,(t.block g hlt (hv g rfl)).trans hg,rest⟩
theorem bv{w:World}{size n:Nat}{xs:List Value}(h:w.ownsRow base e size v n xs):∃a c,v=.slice a n c:=by
 rcases h.2 with⟨rfl,rfl⟩|⟨g,cap,cur,rfl,_⟩
 ·exact⟨none,0,rfl⟩
 ·exact⟨_,_,rfl⟩
theorem UX{w:World}(hB:w.heap.size=B)(vs:List Value)(t:TypeId):∀j u,vs[j]?=some u→(w.alloc (.cells vs.toArray t)).cell? ((⟨B,0,none⟩:Addr).add j)=some u:=by subst hB;exact AP w vs t
theorem aA.low{own:Nat→Prop}{a A B:World}(h:BL a A)(t:aA own A B)(ho:∀k,own k→a.heap.size≤k):BL a B:=aA.below h t h.size ho
theorem iE{w:World}{o:Oper}{size n:Nat}{xs:List Value}(hown:w.ownsRow base e size v n xs)(ad:Addr)(m c:Nat)(news:List Value){i:TypeInfo}{z:Value}{bytes:Nat}(hi:P.info? e=some i)(hz:i.zero=some z)(hsize:i.size=size)(hby:i.bytes=bytes)
  (h:∀v' w',w'.ownsRow base e size v' (n+m) (xs++news)→w.grownBy w' v.ownBlock→nI w v v'→wpList P ops Q rest (a.put o.dst v') w')
  {s x:Operand} {t:TypeId} (ho:o.op=.call { callee:=.builtin .append,args:=#[s,x],argTypes:=#[t,t] }:=by rfl) (hgd:o.guard=none:=by rfl) (ht:P.underlying t=some (.slice e):=by kernel_rfl) (hzs:z.cells.size=size:=by rfl) (hsz:0<size:=by decide) (hs:a.eval s=v:=by rfl) (hx:a.eval x=.slice (some ad) m c:=by rfl) (hl:news.length=m*size:=by rfl) (hnews:∀j u,news[j]?=some u→w.cell? (ad.add j)=some u:=by exact AP _ _ _) (h1:∀u∈news,u.oneCell'=true:=by simp[Value.oneCell']) (h63:n+m≤maxLen:=by first|(simp[maxLen];omega)|(unfold maxLen;omega)) (hbytes:(n+m)*bytes≤140737488355328:=by first|omega|(simp;omega)) (hbase:base≤w.heap.size:=by first|omega|(simp;omega)):wpList P ops Q (o::rest) a w:=
 Xq w hgd s x t ho base e i z size bytes ht hi hz hsize hby hzs hsz v n xs hs hown ad m c news hx hl hnews h1 h63 hbytes hbase h
section
attribute [local go_sem] Qv
theorem ach(s:Sp):ik [] s=[s]:=rfl
def UD(g c base:Nat)(vs:List Value)(v:Value)(ys:List Sp)(w w':World):Prop:=
 ∃v',Bx g (vs.set c v') w'∧bG base w' v' ys∧aA (λb=>b=g∨some b=v.ownBlock) w w'∧nI w v v'
theorem set_self(h:vs[c]?=some v):vs.set c v=vs:=by
 apply agf;intro i;by_cases e:c=i
 ·subst e;have:=(gN.1 h).1;rw[yU this,h]
 ·rw[Ar e]
theorem atf(g c base:Nat)(vs:List Value)(v:Value)(xs:List Sp)(iX:Int)(w:World)(hX:Bx g vs w)(hc:vs[c]?=some v)(hO:bG base w v xs)(hg:g<base)(hb:base≤w.heap.size)
  (hn:xs.length≤1000000) (hx:∀s∈xs,-100000≤s.2∧s.2≤100000) (h1:-100000≤iX) (h2:iX≤100000) :
  Calls prog 220 #[.pointer (some ⟨g,c,none⟩),iX] w λe w'=>e=.returned (.tuple #[])∧UD g c base vs v (ik xs (iX,iX)) w w':=by
 have hlt:=(gN.1 hc).1;have c0:w.cell? ⟨g,c,none⟩=some v:=(hX.cell c).trans hc;have z0:w.frozen? ⟨g,c,none⟩=false:=hX.free c;have hgl:=hX.lt;have HX:=U hX;have HO:=U hO;have HC:=U hc;clear hX hO hc;obtain⟨i0,hi,hz0,hz1,hz2⟩:=dY zu
 have Jz:∀(hm:ik xs (iX,iX)=xs++[(iX,iX)]),∀(w1 w4:World) (v':Value) (o:Obj),w1=w→w4.ownsRow base 41 2 v' (xs.length+1) (iN xs++[.int .i64 iX,.int .i64 iX])→(w1.alloc o).grownBy w4 v.ownBlock→nI (w1.alloc o) v v'→
   w4.cell? ⟨g,c,none⟩=some v∧w4.frozen? ⟨g,c,none⟩=false∧UD g c base vs v (ik xs (iX,iX)) w (w4.setCell ⟨g,c,none⟩ v'):=by
  intro hm w1 w4 v' o e hown hgr hw;subst e;have hne:∀k,v.ownBlock=some k→k≠g:=λk hk=>by have:=(HO.o.lt k hk).1;omega
  have X4:Bx g vs w4:=(HX.o.alloc o).grown hgr (λe=>hne g e.symm rfl);refine⟨(X4.cell c).trans HC.o,X4.free c,v',X4.set c v' hlt,?_,?_,?_⟩
  ·rw[hm];exact oU (wW hown rfl) ic _
  ·exact((aA.alloc _ w1 o).trans ((aA.grown hgr (λk hk=>hk.symm)).mono λk hk=>.inr hk)).trans (aA.setCell _ _ _ _ (.inl rfl))
  ·rcases hw with h|⟨k,h,hk⟩
   ·exact .inl h
   ·refine .inr ⟨k,h,?_⟩;simp only[fH]at hk;omega
 rcases GI xs with rfl|⟨o,t,rfl⟩
 ·have Jz:=U (Jz rfl);obtain⟨a,cap,rfl⟩:∃a cap,v=.slice a 0 cap:=lu (enc:=λx:Sp=>[x.1,x.2]) HO.o;go_in;go_wp2_with (at_builtin;go_loud (refine iE (HO.o.alloc _) ⟨w.heap.size,0,none⟩ 1 1 [iX,iX] hi hz0 hz1 hz2 ?_);intro v' w4 hown' hgrow bY;obtain⟨k1,k2,k3⟩:=Jz.o _ _ _ _ rfl hown' hgrow bY;obtain⟨a9,c9,rfl⟩:=bv hown')
  go_end0;exact⟨rfl,k3⟩
 ·have hl0:(o++[t]).length=o.length+1:=aj;obtain⟨q,cap,rfl,q1,q2,q3,q4,f1,f2,ff,_,_⟩:=Bq HO.o (k:=o.length) aj;have e0:(o++[t])[o.length]' aj=t:=aj;rw[e0]at f1 f2;have hxt:=hx t aj;have HM:=U (I6 o t (iX,iX));obtain⟨t1,t2⟩:=t;simp only at f1 f2 hxt HM;have n1:¬q=g:=ae;have n2:¬g=q:=ae;have hn':o.length≤1000000:=by simp at hn;omega
  have hn2:o.length≤1000000:=hn';obtain⟨m,hm⟩:∃m,m=o.length:=⟨_,rfl⟩;rw[hl0,←hm]at HO HC c0;rw[←hm]at f1 f2 hn';rw[←hm]at hl0;rw[hl0];have tK:=U hl0;have i1:(0:Int)≤(m:Int):=ae;have i2:(m:Int)<(m:Int)+1:=ae;by_cases hle:iX≤t2+1
  ·have HR:Hid (ik (o++[(t1,t2)]) (iX,iX)=(o++[(t1,t2)]).set m (t1,max t2 iX)):=U (by rw[HM.o,aG hle,hm];simp);have t0:decide (iX≤t2+1)=true:=zJ;have w1:IntKind.i64.wrap (t2+1)=t2+1:=dE _ ae;rw[HR.o];have hmk:=U hm;have hl1:=U hl0;clear hle Jz hm hl0;go_in;go_wp2;refine iQ [19] [19] 0 [] [(0,[0,1,2,3,4,5,6,7,8,9,10,11,12,13,14,15,16,17,18],19)] [] [] [(0,[_,_,_,_,_,_,_,_,_,_,_,_,_,_,_,_,_,_,_],19,_)] [] ?_;refine aH (iP ?_)
   (repeat(go_big_quiet_step (fail)));refine aH ?_
   intro n6;go_wp2_with fail
   all_goals
    refine bS _ rfl (jl ?_);go_wp2_with fail
    (try simp only[Exit.inBlock,Exit.then]);refine kE (Jf rfl _ _ _) rfl ?_
    have hlt2:m<(o++[(t1,t2)]).length:=by rw[hl1.o];omega
    have bL:=fq HO.o (Bl.drewN (aB _ _) n6)
    have e1:((o++[(t1,t2)])[m]'hlt2).1=t1:=by
     have:=hmk.o;subst this;simp
    refine⟨rfl,_,?_,?_,(aA.drewN _ w n6).trans (aA.setCell _ _ _ _ (.inr rfl)),.inl rfl⟩
    ·rw[set_self HC.o];exact(HX.o.drewN n6).far ic _
    ·first
      |(have ja:=K6 bL hlt2 t2
        rw[e1]at ja;rw[show max t2 iX=t2 from ae]
        exact ja)
      |(have ja:=K6 bL hlt2 iX
        rw[e1]at ja;rw[show max t2 iX=iX from ae]
        exact ja)
      |(have ja:=K6 bL hlt2 (max t2 iX)
        rw[e1]at ja
        exact ja)
      |fail
  ·have HR:Hid (ik (o++[(t1,t2)]) (iX,iX)=(o++[(t1,t2)])++[(iX,iX)]):=U (by rw[HM.o,aD hle]);have Jz:=U (Jz HR.o);have t0:decide (iX≤t2+1)=false:=zJ;have w1:IntKind.i64.wrap (t2+1)=t2+1:=dE _ ae;clear hle hm hl0;go_in;go_wp2_with (at_builtin;go_loud (refine iE (HO.o.alloc _) ⟨w.heap.size,0,none⟩ 1 1 [iX,iX] hi hz0 hz1 hz2 ?_);intro v' w4 hown' hgrow bY;obtain⟨k1,k2,k3⟩:=Jz.o _ _ _ _ rfl hown' hgrow bY;rw[tK.o]at k1;obtain⟨a9,c9,rfl⟩:=bv hown')
   go_end0;refine⟨rfl,?_⟩;unfold UD at k3 ⊢;rw[show(o++[(t1,t2)]).length=o.length+1 from aj]at k3;exact k3
end
theorem Ep{e size n m:Nat}{xs news:List Value}{w w2 w4:World}{o:Obj}(hX:Bx B vs w)(hb2:Up w w2)(hO:w.ownsRow base e size v n xs)(hown:w4.ownsRow base e size v' m (xs++news))(hgr:(w2.alloc o).grownBy w4 v.ownBlock)
  (hw:nI (w2.alloc o) v v') (hB:B<base) (hc:vs[c]?=some v) :
  (w4.cell? ⟨B,c,none⟩=some v∧w4.frozen? ⟨B,c,none⟩=false)∧∀nq,Bx B (vs.set c v') ((w4.drewN nq).setCell ⟨B,c,none⟩ v')∧((w4.drewN nq).setCell ⟨B,c,none⟩ v').ownsRow base e size v' m (xs++news)∧aA (λb=>b=B∨some b=v.ownBlock) w ((w4.drewN nq).setCell ⟨B,c,none⟩ v')∧nI w v v':=by
 have hlt:=(gN.1 hc).1;have hne:∀k,v.ownBlock=some k→k≠B:=λk hk=>by have:=(hO.lt k hk).1;omega
 have X4:Bx B vs w4:=((hX.next hb2).alloc o).grown hgr (λe=>hne B e.symm rfl);refine⟨⟨(X4.cell c).trans hc,X4.free c⟩,λnq=>⟨(X4.drewN nq).set c v' hlt,oU (jB hown nq) (by dsimp only;exact hB) _,?_,?_⟩⟩
 ·have t1:aA (λb=>b=B∨some b=v.ownBlock) w w2:=aA.of_below hb2;exact(((t1.trans (aA.alloc _ w2 o)).trans ((aA.grown hgr (λk hk=>hk.symm)).mono λk hk=>.inr hk)).trans (aA.drewN _ w4 nq)).trans (aA.setCell _ _ _ _ (.inl rfl))
 ·rcases hw with h|⟨k,h,hk⟩
  ·exact .inl h
  ·refine .inr ⟨k,h,?_⟩;have:=hb2.size;simp only[fH]at hk;omega
section
attribute [local go_sem] Qv
structure JInv(l:List Sp)(x:Sp)(k:Nat)(out:List Sp)(xc:Sp)(pt:Bool):Prop where
 no:pt=false→join l x=out++join (l.drop k) xc
 yes:pt=true→join l x=out++l.drop k∧∀s∈l.drop k,xc.2+1<s.1
 len:out.length≤k+(if pt=true then 1 else 0)
 b1:-1000000≤xc.1
 b2:xc.2≤1000000
 b3:xc.1≤xc.2
section
variable {l:List Sp} {x:Sp} {k:Nat} {out:List Sp} {xc:Sp} {pt:Bool}
theorem ass(hk:k<l.length):l.drop k=l[k]::l.drop (k+1):=J4 hk
theorem JInv.there(h:JInv l x k out xc true)(hk:k<l.length):xc.2+1<l[k].1:=(h.yes rfl).2 l[k] (by rw[ass hk];exact List.mem_cons_self)
end
end
theorem yC{w:World}{xs:List Sp}(h:xs=[]):bG base w (.slice none 0 0) xs:=by subst h;exact nJ w base _ _
theorem as6(xs:List Sp):∀u∈iN xs,u.oneCell'=true:=by
 intro u hu;obtain⟨x,_,hx⟩:=iB.1 hu;simp at hx;rcases hx with rfl|rfl<;>rfl
theorem awS{w:World}{b:Nat}{xs:List Sp}(h:aC Shape.span w (.slice (some ⟨b,o,none⟩) xs.length c) xs):∀j u,(iN xs)[j]?=some u→w.cell? ((⟨b,o,none⟩:Addr).add j)=some u:=
 I1 (enc:=λp:Sp=>[p.1,p.2]) mE aW h
theorem awT{s:Shape α}{w:World}{n:Nat}{xs:List α}(h:aC s w (.slice none n c) xs):xs=[]:=by
 rcases pJ xs.length with h0|h0
 ·exact jo h0
 ·obtain⟨b,o,cs,e,_⟩:=h.at h0;cases e
theorem ayP{w:World}(base:Nat)(t ty e:TypeId)(i:TypeInfo)(size:Nat)(ht:P.underlying t=some (.slice e))(hi:P.info? e=some i)
  (v:Value) (n c:Nat) (xs:List Value) (hown:w.ownsRow base e size v n xs) :
  (Builtin.append_ #[t,t] ty #[v,.slice none 0 c]).run P w=.ok v w:=by
 rcases hown.2 with⟨rfl,rfl⟩|⟨g,cap,cur,rfl,_,_,hnc,_⟩
 ·simp[Builtin.append_,amb ht,sizeOf,typeInfo,hi,Builtin.lenOf,Builtin.firstCells]
 ·simp[Builtin.append_,amb ht,sizeOf,typeInfo,hi,Builtin.lenOf,Builtin.firstCells,hnc,storeCells]
section
variable {P:Program} (w:World)
theorem Ov{o:Oper}(hgd:o.guard=none)(s x:Operand)
  (ho:o.op=.call { callee:=.builtin .append,args:=#[s,x],argTypes:=#[54,54] })
  (base:Nat) (v u:Value) (xs ys:List Sp) (hs:a.eval s=v) (hown:bG base w v xs) (hx:a.eval x=u) (hu:aC Shape.span w u ys)
  (h63:xs.length+ys.length≤1000000000000) (hbase:base≤w.heap.size)
  (h:∀v' w',bG base w' v' (xs++ys)→w.grownBy w' v.ownBlock→nI w v v'→wpList prog ops Q rest (a.put o.dst v') w'):wpList prog ops Q (o::rest) a w:=by
 obtain⟨i0,hi,hz0,hz1,hz2⟩:=dY zu;obtain⟨ad,c,rfl,_,_⟩:=hu.shape;rcases ad with _|⟨b,off,sp⟩
 ·have h0:=awT hu;subst h0;refine Jv hgd λK hK=>?_;have hrun:=ayP (P:=prog) (w:=w) base 54 o.type 41 i0 2 underlying54 hi v xs.length c _ hown;unfold Oper.wp execOp;have e0:([]:List Sp).length=0:=rfl;rw[e0]at hx;simp only[ho,resolve,invoke,builtin,wU,Ke,AB,PY,oG,Av,hs,hx,hrun];exact hK _ _ (h v w (by simpa using hown) ⟨rfl,rfl,rfl,aV _,λ_ _ _=>rfl⟩ (.inl rfl))
 ·rcases pJ ys.length with h0|h0
  ·have hn:ys=[]:=jo h0;subst hn;refine Xq w hgd s x 54 ho base 41 i0 (.agg #[.int .i64 0,.int .i64 0]) 2 16 underlying54 hi hz0 hz1 hz2 rfl aW v xs.length (iN xs) hs hown ⟨b,off,sp⟩ 0 c [] hx rfl aj aj lD ae hbase ?_;intro v' w' r1 r2 r3;exact h v' w' (by simpa using r1) r2 r3
  ·obtain⟨b',o',cs,e,_⟩:=hu.at h0;cases e;refine Xq w hgd s x 54 ho base 41 i0 (.agg #[.int .i64 0,.int .i64 0]) 2 16 underlying54 hi hz0 hz1 hz2 rfl aW v xs.length (iN xs) hs hown ⟨b,off,none⟩ ys.length c (iN ys) hx (U9 ys) (awS hu) (as6 ys) lD ae hbase ?_;intro v' w' r1 r2 r3;refine h v' w' ?_ r2 r3;unfold bG;rw[as5,dn];exact r1
end
section
attribute [local go_sem] Qv
theorem atu(n:Nat)(w:World)(hn:n≤1000000000):Calls prog 314 #[.slice none 0 0,n] w λe w'=>∃v,e=.returned v∧bG w.heap.size w' v []∧BL w w':=by
 obtain⟨i0,hi,hz0,hz1,hz2⟩:=dY zu;rcases pJ n with h0|h0
 ·subst h0;go_in;go_wp2;go_ret;exact⟨_,rfl,nJ w _ _ _,aB _ _⟩
 ·obtain⟨G,hG⟩:∃G,G=grownCap w (0+n) 0 41:=⟨_,rfl⟩
  have hrz:∀ty,(Builtin.append_ #[54,3] ty #[.slice none 0 0,.int .i64 (n:Int)]).run prog w=.ok (.slice (some ⟨w.heap.size,0,none⟩) (0+n) G) (w.drew.alloc (.cells (([]:List Value).toArray++Builtin.zeroCells (Value.agg #[.int .i64 0,.int .i64 0]).cells n++Builtin.zeroCells (Value.agg #[.int .i64 0,.int .i64 0]).cells (G-(0+n))) 41)):=λty=>by
   rw[hG];exact Lib.run_append_grow_zeros w 54 3 ty 41 i0 (.agg #[.int .i64 0,.int .i64 0]) .i64 .i64 underlying54 underlying3 hi hz0 none 0 0 [] (run_firstCells_none w.drew i0.size 0 0 0) n h0 (by rw[hz1];decide) ae ae Lf (aiz ae Lf)
  have hg1:0+n≤G:=by rw[hG];exact grownCap_ge w _ _ _
  have hg2:G≤maxLen:=by rw[hG];exact grownCap_le_maxLen w (0+n) 0 41 lD
  have HR:Hid (bG w.heap.size (w.drew.alloc (.cells (([]:List Value).toArray++Builtin.zeroCells (Value.agg #[.int .i64 0,.int .i64 0]).cells n++Builtin.zeroCells (Value.agg #[.int .i64 0,.int .i64 0]).cells (G-(0+n))) 41)) (.slice (some ⟨w.heap.size,0,none⟩) 0 G) []):=U (by
   refine⟨by simp[iN],.inr ⟨w.heap.size,G,_,rfl,aV _,CZ w.drew _,tX _,hg2,?_,by simp[iN]⟩⟩;rw[aeg,aeg,amP,amP];simp[Value.cells]
   omega)
  have HB:Hid (BL w (w.drew.alloc (.cells (([]:List Value).toArray++Builtin.zeroCells (Value.agg #[.int .i64 0,.int .i64 0]).cells n++Builtin.zeroCells (Value.agg #[.int .i64 0,.int .i64 0]).cells (G-(0+n))) 41))):=U (Bl.alloc (a:=w) (w:=w.drew) ⟨rfl,rfl,rfl,aV _,λ_ _=>rfl⟩ _);unfold maxLen at hg2;have HG:=U hG;clear hG;generalize (w.drew.alloc (.cells (([]:List Value).toArray++Builtin.zeroCells (Value.agg #[.int .i64 0,.int .i64 0]).cells n++Builtin.zeroCells (Value.agg #[.int .i64 0,.int .i64 0]).cells (G-(0+n))) 41))=w1 at *;go_in;go_wp2_with (at_builtin;refine Lib.wpList_append_run _ rfl _ _ _ _ rfl _ _ rfl rfl _ _ (hrz _) ?_)
  go_ret;exact⟨_,rfl,HR.o,HB.o⟩
theorem arZ(B:Nat)(v1 v2:Value)(xs ys:List Sp)(w:World)(h1:aC Shape.span w v1 xs)(h2:aC Shape.span w v2 ys)(hX:Bx B [v1,v2] w)(n1:xs.length≤1000000)(n2:ys.length≤1000000):
  Calls prog 275 #[.slice (some ⟨B,0,none⟩) 2 2] w λe w'=>∃v,e=.returned v∧bG w.heap.size w' v (xs++ys)∧BL w w':=by
 obtain⟨a1,c1,rfl,_,d1⟩:=h1.shape;obtain⟨a2,c2,rfl,_,d2⟩:=h2.shape;unfold maxLen at d1 d2;have HX:=U hX;have H1:=U h1;have H2:=U h2;clear hX h1 h2;have hlt:=HX.o.lt;go_in;go_wp2_with fail;have q0:=HX.o.cell 0;have q1:=HX.o.cell 1;simp only[aK,bB]at q0 q1
 go_loopw [3,11] (λs3 s11 wr=>wr=w∧((s11=.int .i64 0∧s3=.int .i64 0)∨(s11=.int .i64 1∧s3=.int .i64 xs.length)∨(s11=.int .i64 2∧s3=.int .i64 (xs.length+ys.length)))) (λ_ s11 _=>(2-intOf s11).toNat)
 case atStart=>exact⟨rfl,.inl ⟨rfl,rfl⟩⟩
 case round=>
  obtain⟨hw,hrel⟩:=hrel;have hw':=hw.symm;clear hw;subst hw';rcases hrel with⟨rfl,rfl⟩|⟨rfl,rfl⟩|⟨rfl,rfl⟩
  ·have t0:decide ((xs.length:Int)<0)=false:=aj;go_wp2;go_roundw
   case rel=>exact⟨by first|rfl|trivial,.inr (.inl ⟨rfl,aY⟩)⟩
   case measure=>simp[intOf]
  ·have t0:decide ((xs.length:Int)+(ys.length:Int)<0)=false:=bC;go_wp2;go_roundw
   case rel=>exact⟨by first|rfl|trivial,.inr (.inr ⟨rfl,aY⟩)⟩
   case measure=>simp[intOf]
  ·clear q0 q1;go_wp2_with fail;refine(atu (xs.length+ys.length) _ ae).mono ?_;rintro e w1 ⟨v,rfl,hO,hb⟩;obtain⟨a3,c3,rfl⟩:=bv hO;have HO:=U hO;clear hO;have X1:=HX.o.next hb;have q0:=X1.cell 0;have q1:=X1.cell 1;simp only[aK,bB]at q0 q1;have hl1:=X1.lt;have aZ:=U X1;clear X1;go_wp2
   go_loopw [6,27] (λs6 zH wx=>BL w wx∧((zH=.int .i64 0∧Hid (bG w.heap.size wx s6 []))∨(zH=.int .i64 1∧Hid (bG w.heap.size wx s6 xs))∨(zH=.int .i64 2∧Hid (bG w.heap.size wx s6 (xs++ys))))) (λ_ zH _=>(2-intOf zH).toNat)
   case atStart=>exact⟨hb,.inl ⟨rfl,HO⟩⟩
   case round=>
    clear q0 q1 HO hb hl1 aZ;obtain⟨hb,hrel⟩:=hrel;have X1:=HX.o.next hb;have q0:=X1.cell 0;have q1:=X1.cell 1;simp only[aK,bB]at q0 q1;have hl1:=X1.lt;have hsz:=hb.size;clear X1;rcases hrel with⟨rfl,HO⟩|⟨rfl,HO⟩|⟨rfl,HO⟩
    ·go_wp2_with (at_builtin;go_loud (refine Ov _ rfl _ _ rfl w.heap.size _ _ [] xs rfl HO.o rfl (H1.o.below hb) bC hsz ?_);intro v' w4 ho' hgrow _)
     have hb4:BL w w4:=gJ hb hgrow hsz (λj hj=>(HO.o.lt j hj).1);have fu:=U ho';clear ho' hgrow;go_roundw
     case rel=>exact⟨hb4,.inr (.inl ⟨rfl,fu⟩)⟩
     case measure=>simp[intOf]
    ·go_wp2_with (at_builtin;go_loud (refine Ov _ rfl _ _ rfl w.heap.size _ _ xs ys rfl HO.o rfl (H2.o.below hb) ae hsz ?_);intro v' w4 ho' hgrow _)
     have hb4:BL w w4:=gJ hb hgrow hsz (λj hj=>(HO.o.lt j hj).1);have fu:=U ho';clear ho' hgrow;go_roundw
     case rel=>exact⟨hb4,.inr (.inr ⟨rfl,fu⟩)⟩
     case measure=>simp[intOf]
    ·go_wp2;go_ret;exact⟨_,rfl,HO.o,hb⟩
end
section
open Go.Sort Go.Proofs
def uY:Type:={ p:Sp // -100000000≤p.1∧p.1≤100000000 }
instance:Inhabited uY:=⟨⟨(0,0),aj⟩⟩
def Eo(p:uY):List Value:=[.int .i64 p.1.1,.int .i64 p.1.2]
def CO(x y:uY):Int:=x.1.1-y.1.1
theorem Ru(x y:uY):ltOf CO x y=true↔x.1.1<y.1.1:=by
 unfold ltOf CO;constructor
 ·intro h;have:=EN h;omega
 ·intro h;exact En ae
theorem Rv(x y:uY):ltOf CO x y=false↔y.1.1≤x.1.1:=by
 rw[←Bool.not_eq_true,Ru];omega
theorem aAn:SWO (ltOf CO):=
 ⟨λx=>(Rv x x).2 (oo _),λx y z h1 h2=>(Ru x z).2 (Int.lt_trans ((Ru x y).1 h1) ((Ru y z).1 h2)),λx y z h1 h2=>(Rv x z).2 (Int.le_trans ((Rv y z).1 h2) ((Rv x y).1 h1))⟩
def wC(xs:List uY):List Sp:=xs.map (·.1)
theorem az5{xs:List uY}(h:k<xs.length)(h':k<(wC xs).length):(wC xs)[k]=xs[k].1:=by simp[wC]
theorem Lt(xs:List uY):(wC xs).length=xs.length:=by simp[wC]
theorem az6{xs:List Sp}(h:∀s∈xs,-100000000≤s.1∧s.1≤100000000):∃ys:List uY,wC ys=xs:=by
 induction xs with
 |nil=>exact⟨[],rfl⟩
 |cons x xs ih=>
  obtain⟨ys,rfl⟩:=ih λs hs=>h s (by simp[hs]);exact⟨⟨x,h x aj⟩::ys,rfl⟩
theorem aif(xs:List uY):(flatK Eo 2 xs.toArray).toList=iN (wC xs):=by
 apply agf;intro t;by_cases ht:t<xs.length*2
 ·have hk:t / 2<xs.length:=ae;have hk':t / 2<(wC xs).length:=by rw[Lt];exact hk
  obtain⟨f1,f2⟩:=U8 (wC xs) (t / 2) hk';rw[az5 hk hk']at f1 f2;have hs:t<(flatK Eo 2 xs.toArray).size:=by simpa using ht
  rw[aee,Array.getElem?_eq_getElem hs,←aaF (flatK Eo 2 xs.toArray) t hs,get_flatK _ _ _ _ (by simpa using ht)];have e:xs.toArray[t / 2]! =xs[t / 2]:=by simp[hk]
  rw[e];rcases Nat.mod_two_eq_zero_or_one t with h|h
  ·rw[h];rw[show t / 2*2=t from ae]at f1;rw[f1];rfl
  ·rw[h];rw[show t / 2*2+1=t from ae]at f2;rw[f2];rfl
 ·rw[wT bC,wT (by rw[U9,Lt];omega)]
theorem auu{w:World}{n:Nat}{os:Array Obj}{cur:Array Value}{fr:Nat×Nat}(D:Array Value)(hb:w.heap[g]?=some (.cells cur e fr)):
  (Sort.grow (putRow id (Sort.ahead w n) g 0 D) os).heap[g]?=some (.cells (putCells id 0 D cur) e fr):=by
 have hg:g<w.heap.size:=(nu.1 hb).1;rw[heap_grow_old _ _ (by simpa using hg)];simp[putRow,mapBlock,Sort.ahead,XG,hb,onCells]
theorem aAt(cur D:Array Value)(h:D.size≤cur.size):(putCells id 0 D cur).toList.take D.size=D.toList:=by
 apply agf;intro j;by_cases hj:j<D.size
 ·rw[List.getElem?_take_of_lt hj,aee];simp[putCells,hj,show j<cur.size from ae]
 ·rw[List.getElem?_take_eq_none ae,wT bC]
theorem aAU{w:World}{n:Nat}{os:Array Obj}(D:Array Value):aA (λb=>b=g) w (Sort.grow (putRow id (Sort.ahead w n) g 0 D) os):=by
 refine⟨rfl,rfl,rfl,aj,λk hk hne=>?_⟩;rw[heap_grow_old _ _ BC];have:g≠k:=λe=>hne e.symm;simp[putRow,mapBlock,Sort.ahead,XG,this]
theorem axN{cap:Nat}{w:World}{xs:List uY}(h:bG base w (.slice (some ⟨g,0,none⟩) (wC xs).length cap) (wC xs)):HoldsK Eo 2 w g 0 xs.toArray:=by
 intro j hj;have hj':j<(wC xs).length*2:=by rw[Lt];simpa using hj
 have hf:(flatK Eo 2 xs.toArray)[j]! =(iN (wC xs))[j]'(by rw[U9];exact hj'):=by
  rw[aaF _ j hj,←aef];simp only[aif]
 rw[hf,oJ];exact⟨(h.cellAt j hj').trans (di _),h.frozenAt j⟩
def LV(f:Nat):Prop:=∃cf:uY→uY→Int,(∀x y,cf x y<0↔x.1.1<y.1.1)∧∀(x y:uY) (W:World),Calls prog f #[.agg #[x.1.1,x.1.2],.agg #[y.1.1,y.1.2]] W λe w'=>e=.returned (.int .i64 (cf x y))∧∃q os',w'=Sort.grow (W.drewN q) os'
theorem awX{cf:uY→uY→Int}(h:∀x y,cf x y<0↔x.1.1<y.1.1):ltOf cf=ltOf CO:=by
 funext x y
 rw[DK,Ru,←h x y];unfold ltOf;exact⟨EN,En⟩
theorem az3{cap f:Nat}{zs:List Sp}{w:World}(hO:bG base w (.slice (some ⟨g,0,none⟩) zs.length cap) zs)(hbd:∀s∈zs,-100000000≤s.1∧s.1≤100000000)(hn:zs.length≤1000000000000)(eg:∀args w,(callFunc f args).run prog w=.ok (.enter f args) w)(hf:LV f):
  Calls prog 180 #[.slice (some ⟨g,0,none⟩) zs.length cap,.func (.func f) #[] #[]] w λe w'=>e=.returned (.tuple #[])∧∃ys:List Sp,ys.Perm zs∧ys.Pairwise (λs t=>s.1≤t.1)∧bG base w' (.slice (some ⟨g,0,none⟩) zs.length cap) ys∧aA (λb=>b=g) w w':=by
 have hO2:=hO;rcases hO2.2 with⟨h0,_⟩|⟨g',cap',cur,e,hb,hh,hnc,hcm,hcs,ht⟩
 ·cases h0
 cases e;have hgl:g<w.heap.size:=(nu.1 hh).1;obtain⟨xs,rfl⟩:=az6 hbd;rw[Lt]at hn hnc ⊢;obtain⟨cf,hcf,hf⟩:=hf;have hlc:=awX hcf;have hcon:=AnyQ.slices_SortFunc aFN 2 isAgg41 sizeOf41 Eo (λ_=>rfl) (λx v hv=>by simp[Eo]at hv;rcases hv with rfl|rfl<;>rfl) cf (by rw[hlc];exact aAn) f #[] g 0 cap xs.toArray w eg (λ_ _ _ _ x y=>hf x y _) (axN hO) hgl bC;have hsz:xs.toArray.size=xs.length:=aj;rw[hsz]at hcon;refine OC (show Calls prog 180 _ _ _ from hcon) ?_;rintro e w' ⟨he,d',n,os,hp,hs,rfl⟩;rw[hlc]at hs;obtain⟨p1,p2,p3⟩:=hp;have hd:d'.size=xs.length:=by rw[p1];simp
 have hl:d'.toList.length=xs.length:=by simpa using hd
 refine⟨he,wC d'.toList,?_,?_,?_,aAU _⟩
 ·have e1:(d'.extract 0 xs.length).toList=d'.toList:=by rw[←hd];simp
  have e2:(xs.toArray.extract 0 xs.length).toList=xs:=aj;rw[e1,e2]at p3;exact p3.map _
 ·rw[wC,MC,Zu];intro i j hi hj hij;have:=hs i j (tX _) hij ae;have hi':i<d'.size:=Oe;have hj':j<d'.size:=Ls;rw[aaF d' i hi',aaF d' j hj']at this;simp only[aef];exact(Rv _ _).1 this
 ·have hfl:(flatK Eo 2 d').toList=iN (wC d'.toList):=by have:=aif d'.toList;simpa using this
  refine⟨by rw[U9],.inr ⟨g,cap,putCells id 0 (flatK Eo 2 d') cur,by rw[Lt,hl],hb,auu _ hh,by rw[Lt];omega,hcm,by simp[putCells,hcs],?_⟩⟩;have:=aAt cur (flatK Eo 2 d') (by rw[size_flatK,hcs,hd];exact P7 _ hnc);rw[size_flatK,hd]at this;rw[Lt,hl,←hfl];exact this
end
section
attribute [local go_sem] Qv
theorem asQ:LV 276:=by
 refine⟨CO,λx y=>by unfold CO;omega,?_⟩;rintro⟨⟨x1,x2⟩,hx⟩ ⟨⟨y1,y2⟩,hy⟩ W;unfold CO;simp only at hx hy ⊢;have hw:IntKind.i64.wrap (x1-y1)=x1-y1:=dE _ ae;go_in;go_wp2;go_ret;exact⟨rfl,0,_,amm⟩
theorem aw6(l:List Sp)(x:Sp):merge (l++[x])=ik (merge l) x:=by simp[merge]
theorem V7(hk:k<l.length):merge (l.take (k+1))=ik (merge (l.take k)) l[k]:=by
 rw[jF hk,aw6]
theorem axf(o:List Sp)(s:Sp):(ik o s).length≤o.length+1:=by
 rcases GI o with rfl|⟨o,t,rfl⟩
 ·simp[ach]
 ·rw[I6];split<;>simp
theorem ace(l:List Sp):(merge l).length≤l.length:=by
 have:∀(n:Nat),n≤l.length→(merge (l.take n)).length≤n:=by
  intro n
  induction n with
  |zero=>intro _;simp[merge]
  |succ n ih=>
   intro h;rw[V7 ae];have:=axf (merge (l.take n)) l[n];have:=ih ae;omega
 have:=this l.length (aV _)
 rwa[jc]at this
theorem acd(h:∀s∈l,-200000≤s.2∧s.2≤200000):∀s∈merge l,-200000≤s.2∧s.2≤200000:=by
 have:∀(n:Nat),n≤l.length→∀s∈merge (l.take n),-200000≤s.2∧s.2≤200000:=by
  intro n
  induction n with
  |zero=>intro _ s hs;simp[merge]at hs
  |succ n ih=>
   intro hn s hs;rw[V7 ae]at hs;have ih:=ih ae;have hx:=h l[n] (eu _);rcases GI (merge (l.take n))with e|⟨o,t,e⟩
   ·rw[e,ach]at hs;rw[FW.1 hs];exact hx
   ·rw[e,I6]at hs;have ht:=ih t (by rw[e];simp);split at hs
    ·rcases oH.1 hs with hs|hs
     ·exact ih s (by rw[e];simp[hs])
     ·rw[List.mem_singleton.1 hs];dsimp only;omega
    ·rcases oH.1 hs with hs|hs
     ·exact ih s (by rw[e];exact hs)
     ·rw[FW.1 hs];exact hx
 have:=this l.length (aV _)
 rwa[jc]at this
theorem amU{f:Nat}{zs:List Sp}{w:World}(hO:bG base w v zs)(hbd:∀s∈zs,-100000000≤s.1∧s.1≤100000000)(hn:zs.length≤1000000000000)(eg:∀args w,(callFunc f args).run prog w=.ok (.enter f args) w)(hf:LV f):
  Calls prog 180 #[v,.func (.func f) #[] #[]] w λe w'=>e=.returned (.tuple #[])∧∃ys:List Sp,ys.Perm zs∧ys.Pairwise (λs t=>s.1≤t.1)∧bG base w' v ys∧aA (λb=>some b=v.ownBlock) w w':=by
 have hO2:=hO;rcases hO2.2 with⟨rfl,h0⟩|⟨g,cap,cur,rfl,_⟩
 ·have hz:zs=[]:=jo h0;subst hz;refine OC (show Calls prog 180 _ _ _ from AnyF.slices_SortFunc_none aFN none 0 _ w) ?_;rintro e w' ⟨he,rfl⟩;exact⟨he,[],List.Perm.refl _,List.Pairwise.nil,hO,aA.refl _ _⟩
 ·refine(az3 hO hbd hn eg hf).mono ?_;rintro e w' ⟨he,ys,h1,h2,h3,h4⟩;exact⟨he,ys,h1,h2,h3,h4.mono λk hk=>by subst hk;rfl⟩
structure JA(g c base b3:Nat)(vs:List Value)(v3:Value)(ts:List Sp)(w:World)(k:Nat)(v:Value)(wr:World):Prop where
 box:Bx g (vs.set c v) wr
 row:bG b3 wr v (merge (ts.take k))
 all:bG base wr v3 ts
 turns:aA (λb=>b=g∨w.heap.size≤b) w wr
 size:b3≤wr.heap.size
 apart:∀j,v3.ownBlock=some j→j<b3
theorem JA.next{b3:Nat}{v3:Value}{ts:List Sp}{w wr wq w5:World}(h:JA g c base b3 vs v3 ts w k v wr)(hk:k<ts.length)(hb:BL wr wq)(hX:Bx g ((vs.set c v).set c v') w5)(hO:bG b3 w5 v' (ik (merge (ts.take k)) ts[k]))
  (hT:aA (λb=>b=g∨some b=v.ownBlock) wq w5) (hg:g<base) (hw:w.heap.size≤base) (hb3:base≤b3):JA g c base b3 vs v3 ts w (k+1) v' w5:=by
 have hr:∀j,v.ownBlock=some j→b3≤j:=λj hj=>(h.row.lt j hj).1;refine⟨by rw[Zv]at hX;exact hX,by rw[V7 hk];exact hO,?_,?_,?_,h.apart⟩
 ·refine fO (fq h.all hb) hT λj hj hh=>?_;have h1:=(h.all.lt j hj).1;have h2:=h.apart j hj;rcases hh with hh|hh
  ·omega
  ·have:=hr j hh.symm;omega
 ·refine h.turns.trans ((aA.of_below hb).trans (hT.mono λj hj=>?_));rcases hj with hj|hj
  ·exact .inl hj
  ·have:=hr j hj.symm;exact .inr ae
 ·have:=hb.size;have:=hT.size;have:=h.size;omega
theorem asN(g c:Nat)(vs:List Value)(v u:Value)(xs ys:List Sp)(w:World)(hX:Bx g vs w)(hc:vs[c]?=some v)(hv:aC Shape.span w v xs)(hu:aC Shape.span w u ys)(hbd:∀s∈xs++ys,-100000≤s.1∧s.1≤s.2∧s.2≤100000)
  (n1:xs.length≤100000) (n2:ys.length≤100000):Calls prog 222 #[.pointer (some ⟨g,c,none⟩),u] w λe w'=>e=.returned (.tuple #[])∧∃v',Bx g (vs.set c v') w'∧bG w.heap.size w' v' (norm (xs++ys))∧aA (λb=>b=g) w w':=by
 obtain⟨a1,c1,rfl,_,_⟩:=hv.shape;obtain⟨a2,c2,rfl,_,_⟩:=hu.shape;have hlt:=(gN.1 hc).1;have c0:w.cell? ⟨g,c,none⟩=some (.slice a1 xs.length c1):=(hX.cell c).trans hc;have hgl:=hX.lt;have HX:=U hX;have HV:=U hv;have HU:=U hu;have HC:=U hc;clear hX hv hu hc;obtain⟨i0,hi,hz0,hz1,hz2⟩:=dY zu;have eg:∀args w,(callFunc 276 args).run prog w=.ok (.enter 276 args) w:=fo func276 aF rfl;go_in;go_wp2_with fail;refine(arZ w.heap.size _ _ xs ys _ (HV.o.below (Bl.alloc (aB _ _) _)) (HU.o.below (Bl.alloc (aB _ _) _)) (Bx.new (vs:=[.slice a1 xs.length c1,.slice a2 ys.length c2]) rfl) ae ae).mono ?_;rintro e w1 ⟨v3,rfl,hO3,hb1⟩;rw[fH]at hO3;have HB1:Hid (BL w w1):=U (ru hb1);have aZ:=U ((HX.o.alloc _).next hb1);have hnl:(xs++ys).length≤200000:=bC;have HM:=U (λ(n:Int)=>pX (l:=xs++ys) (n:=n));generalize hzs:xs++ys=zs at *;have HZ:=U hzs;clear hzs;have hs1:=hb1.size;rw[fH]at hs1;clear hb1 HV HU;obtain⟨a3,c3,rfl⟩:=bv hO3;have SO:=U (amU hO3 (λs hs=>aju) ae eg asQ);have H3:=U hO3;clear hO3;go_wp2_with fail;refine SO.o.mono ?_;rintro e w2 ⟨rfl,ts,p1,p2,hO4,hT⟩;clear SO;have hl:=p1.length_eq;have hbt:∀s∈ts,-100000≤s.1∧s.1≤s.2∧s.2≤100000:=λs hs=>hbd s (p1.mem_iff.1 hs)
 have hv3:∀j,(Value.slice a3 zs.length c3).ownBlock=some j→w.heap.size+1≤j∧j<w1.heap.size:=λj hj=>H3.o.lt j hj;have X2:=aZ.o.turns hT (λe=>by have:=hv3 g e.symm;omega);have c0:w2.cell? ⟨g,c,none⟩=some (.slice a1 xs.length c1):=(X2.cell c).trans HC.o;have z0:w2.frozen? ⟨g,c,none⟩=false:=X2.free c;have hs2:=hT.size;have hg2:=X2.lt;have T2:aA (λb=>b=g∨w.heap.size≤b) w w2:=(aA.of_below HB1.o).trans (hT.mono λj hj=>.inr (by have:=(hv3 j hj.symm).1;omega))
 have I0:Hid (JA g c (w.heap.size+1) w2.heap.size vs (.slice a3 zs.length c3) ts w 0 (.slice none 0 0) (w2.setCell ⟨g,c,none⟩ (.slice none 0 0))):=U
  ⟨X2.set c _ hlt,yC (by simp[merge]),oU hO4 ic _,T2.trans (aA.setCell _ _ _ _ (.inl rfl)),aj,λj hj=>by have:=hv3 j hj;omega⟩
 have avi:(w2.setCell ⟨g,c,none⟩ (.slice none 0 0)).heap.size=w2.heap.size:=aj;have HT2:=U hT;have bg:=U X2;have H4:=U hO4;have FIN:Hid (merge ts=norm zs):=U (by rw[V6 (λs hs=>(hbt s hs).2.1) p2];exact V8.2 λn=>aca p1);generalize zs.length=nn at *;subst hl;have lH:=U hbt;clear hT X2 hO4 T2 p1 p2 hbt hbd HM aZ HB1 H3 H4 HT2 bg hv3 eg;go_wp2_with fail;clear c0 z0;generalize w2.setCell ⟨g,c,none⟩ (.slice none 0 0)=w3 at *;obtain⟨b3,hb3⟩:∃b,b=w2.heap.size:=⟨_,rfl⟩;rw[←hb3]at I0;have QX:w.heap.size+1≤b3:=ae;clear hb3 avi hs1 hs2 hg2 HC
 go_loopw [22] (λJj wr=>∃(k:Nat) (v':Value),k≤ts.length∧Jj=.int .i64 k∧Hid (JA g c (w.heap.size+1) b3 vs (.slice a3 ts.length c3) ts w k v' wr)) (λJj _=>ts.length-(intOf Jj).toNat)
 case atStart=>exact⟨0,_,ae,rfl,I0⟩
 case round=>
  clear I0;obtain⟨k,v',hk,rfl,HI⟩:=hrel;obtain⟨a5,c5,rfl⟩:=bv HI.o.row;have c0:wr.cell? ⟨g,c,none⟩=some (.slice a5 (merge (ts.take k)).length c5):=(HI.o.box.cell c).trans (yU hlt);have hgr:=HI.o.box.lt;by_cases hkl:k<ts.length
  ·have BK:=lH.o ts[k] (eu hkl);obtain⟨q,cp,e,q1,q2,_,_,f1,f2,_⟩:=Bq HI.o.all hkl;simp only[qY]at e;obtain⟨rfl,_,rfl⟩:=e;have VK:(merge (ts.take k)).length≤200000:=by have:=ace (ts.take k);rw[oF]at this;omega
   have tT:=HI.o.row;have MB:Hid (∀s∈merge (ts.take k),-200000≤s.2∧s.2≤200000):=U (acd (λs hs=>ajo));have mi:Hid (∀(v':Value) (wq w5:World),BL wr wq→Bx g ((vs.set c (.slice a5 (merge (ts.take k)).length c5)).set c v') w5→bG b3 w5 v' (ik (merge (ts.take k)) ts[k])→aA (λb=>b=g∨some b=(Value.slice a5 (merge (ts.take k)).length c5).ownBlock) wq w5→JA g c (w.heap.size+1) b3 vs (.slice (some ⟨q,0,none⟩) ts.length c3) ts w (k+1) v' w5):=U (λv' wq w5 h1 h2 h3 h4=>HI.o.next hkl h1 h2 h3 h4 ae ae QX);have HR:=U tT;have OO:=U HI.o.box;have hsr:=HI.o.size;clear HI tT;generalize merge (ts.take k)=M at *;generalize ts[k]=x at *;obtain⟨x1,x2⟩:=x;simp only at f1 f2 BK mi;have i1:(0:Int)≤(k:Int):=ae;have i2:(k:Int)<ts.length:=ae;rcases GI M with rfl|⟨o,t,rfl⟩
   ·have tL:Hid (ik [] (x1,x2)=[(x1,x2)]):=U rfl;go_wp2
    go_big_quiet (fail)
    go_wp2_with fail;have FO:=U ((OO.o.alloc (.cells #[x1,x2] 41)).drewN nq);have HO:=U (fq HR.o (Bl.drewN (Bl.alloc (aB wr.heap.size wr) (.cells #[x1,x2] 41)) nq));have iR:BL wr ((wr.alloc (.cells #[x1,x2] 41)).drewN nq):=Bl.drewN (Bl.alloc (aB _ _) _) nq;have XB:Bx wr.heap.size [x1,x2] ((wr.alloc (.cells #[x1,x2] 41)).drewN nq):=(Bx.new rfl).drewN nq;generalize hwq:World.drewN (wr.alloc (.cells #[x1,x2] 41)) nq=wq at *;have HX:=FO;have c0:=(HX.o.cell c).trans (yU hlt);have hgq:=HX.o.lt;have pz:=XB.cell 0;have pE:=XB.cell 1;simp only[aK,bB]at pz pE;have hbq:=XB.lt;have hbs:b3≤wq.heap.size:=Et;clear hwq XB FO;refine iQ [7,10] [6,7,10] 1 [0,1,2,3] [(0,[4,5],6),(1,[],7),(0,[8,9],10)] [] [_,_,_,_] [(0,[_,_],6,_),(1,[],7,_),(0,[_,_],10,_)] [] ?_
    (repeat(go_big_quiet_step (first|fail)));refine aH (ku ?_)
    (repeat(first|(go_big_quiet_want;(first|apply bH eH bK rfl|apply bH eU bK rfl|apply bH eH gH rfl|apply bH eU gH rfl|apply bH eH fZ rfl|apply bH eU fZ rfl|apply bH eH mV rfl|apply bH eU mV rfl);(focus exact AU);(focus exact rfl);go_big_quiet_op;go_big_quiet_on)|go_big_quiet_step (fail)));refine aH ?_
    intro w2 hb2;have bL:=U (gV HO.o hb2);have hsz2:=hb2.size;go_wp2;refine dZ (Bl.alloc hb2 _) (rW ?_);go_wp2_with (at_builtin;go_loud (refine iE (bL.o.alloc _) ⟨w2.heap.size,0,none⟩ 1 1 [x1,x2] hi hz0 hz1 hz2 ?_);intro v5 w4 hown' hgrow bY;obtain⟨a9,c9,rfl⟩:=bv hown')
    refine bS _ rfl (iP ?_);have HF:=U (Ep (c:=c) HX.o hb2 HO.o hown' hgrow bY ae (yU hlt));obtain⟨zF,zR⟩:=HF.o.1
    (repeat(go_big_quiet_step (fail)));refine aH ?_
    intro nq;go_wp2;refine bS _ rfl (jl ?_);obtain⟨hx5,jX,t5,s5⟩:=HF.o.2 nq;have aU:=U hx5;have iA:=U jX;have T5:=U t5;have S5:=U s5;clear hx5 jX t5 s5 HF zF zR hgrow bY bL hown' hb2 hsz2;go_wp2_with fail;have HN:=U (mi.o _ _ _ iR aU.o (by rw[tL.o];exact wW iA.o rfl) T5.o);go_roundw
    case rel=>exact⟨k+1,_,ae,aY,HN⟩
    case measure=>exact aFF
   ·have hl0:(o++[t]).length=o.length+1:=aj;obtain⟨p,cap,e,p1,p2,_,_,g1,g2,gf,_,_⟩:=Bq HR.o (k:=o.length) aj;simp only[qY]at e;obtain⟨rfl,_,rfl⟩:=e;have e0:(o++[t])[o.length]' aj=t:=aj;rw[e0]at g1 g2;have tL:=U (I6 o t (x1,x2));have Ce:Hid (-200000≤t.2∧t.2≤200000):=U (MB.o t aj);have htb:=Ce.o;obtain⟨t1,t2⟩:=t;simp only at g1 g2 tL htb;obtain⟨m,hm⟩:∃m,m=o.length:=⟨_,rfl⟩;have hm':o.length≤200000:=ae;have hm2:m≤200000:=ae;have Cb:=HR.o;rw[hl0,←hm]at Cb c0;rw[←hm]at g1 g2;have tK:Hid ((o++[(t1,t2)]).length=m+1):=U (by rw[hl0,hm]);have XQ:=OO.o;rw[tK.o]at XQ;have BX:=mi.o;rw[tK.o]at BX;replace HR:=U Cb;replace OO:=U XQ;replace mi:=U BX;have hmk:=U hm;clear hm hl0 Cb XQ BX e0 MB;have m1:(0:Int)≤(m:Int):=ae;have m2:(m:Int)<(m:Int)+1:=ae;have w1:IntKind.i64.wrap (t2+1)=t2+1:=dE _ ae;have hpg:¬p=g:=ae;have hgp:¬g=p:=ae;by_cases hle:x1≤t2+1
    ·have t0:decide (x1≤t2+1)=true:=zJ;have mh:Hid (ik (o++[(t1,t2)]) (x1,x2)=(o++[(t1,t2)]).set m (t1,max t2 x2)):=U ame;clear hle;go_wp2
     go_big_quiet (fail)
     go_wp2_with fail;have FO:=U ((OO.o.alloc (.cells #[x1,x2] 41)).drewN nq);have HO:=U (fq HR.o (Bl.drewN (Bl.alloc (aB wr.heap.size wr) (.cells #[x1,x2] 41)) nq));have iR:BL wr ((wr.alloc (.cells #[x1,x2] 41)).drewN nq):=Bl.drewN (Bl.alloc (aB _ _) _) nq;have XB:Bx wr.heap.size [x1,x2] ((wr.alloc (.cells #[x1,x2] 41)).drewN nq):=(Bx.new rfl).drewN nq;have g3:=(iR.cell (p:=⟨p,m*2+1,none⟩) p2).trans g2;have gf2:=(iR.frozen (p:=⟨p,m*2+1,none⟩) p2).trans (gf _);have hpq:p<((wr.alloc (.cells #[x1,x2] 41)).drewN nq).heap.size:=Et;generalize hwq:World.drewN (wr.alloc (.cells #[x1,x2] 41)) nq=wq at *;have c0:=(FO.o.cell c).trans (yU hlt);have hgq:=FO.o.lt;have pz:=XB.cell 0;have pE:=XB.cell 1;simp only[aK,bB]at pz pE;have hbq:=XB.lt;clear hwq XB;refine iQ [20] [20] 0 [] [(0,[0,1,2,3,4,5,6,7,8,9,10,11,12,13,14,15,16,17,18,19],20)] [] [] [(0,[_,_,_,_,_,_,_,_,_,_,_,_,_,_,_,_,_,_,_,_],20,_)] [] ?_;refine aH (iP ?_)
     (repeat(go_big_quiet_step (fail)));refine aH ?_
     intro n6;go_wp2_with fail
     all_goals
      refine bS _ rfl (jl ?_);go_wp2_with fail;have hlt2:m<(o++[(t1,t2)]).length:=by rw[tK.o];omega
      have e1:((o++[(t1,t2)])[m]'hlt2).1=t1:=by
       have:=hmk.o;subst this;simp
      have bL:∀z,bG b3 ((wq.drewN n6).setCell ⟨p,m*2+1,none⟩ (.int .i64 z)) (.slice (some ⟨p,0,none⟩) (m+1) c5) ((o++[(t1,t2)]).set m (t1,z)):=λz=>by
       have:=K6 (fq HO.o (Bl.drewN (aB _ _) n6)) hlt2 z;rw[e1]at this;exact this
      have aU:∀z,Bx g ((vs.set c (.slice (some ⟨p,0,none⟩) (m+1) c5)).set c (.slice (some ⟨p,0,none⟩) (m+1) c5)) ((wq.drewN n6).setCell ⟨p,m*2+1,none⟩ (.int .i64 z)):=λz=>by
       rw[set_self (yU hlt)];exact(FO.o.drewN n6).far (by dsimp only;exact hpg) _
      have T5:∀z,aA (λb=>b=g∨some b=(Value.slice (some ⟨p,0,none⟩) (m+1) c5).ownBlock) wq ((wq.drewN n6).setCell ⟨p,m*2+1,none⟩ (.int .i64 z)):=λz=>(aA.drewN _ wq n6).trans (aA.setCell _ _ _ _ (.inr rfl));have HN:∀z,z=max t2 x2→Hid (JA g c (w.heap.size+1) b3 vs (.slice (some ⟨q,0,none⟩) ts.length c3) ts w (k+1) (.slice (some ⟨p,0,none⟩) (m+1) c5) ((wq.drewN n6).setCell ⟨p,m*2+1,none⟩ (.int .i64 z))):=λz hz=>U (mi.o _ _ _ iR (aU z) amc (T5 z));replace HN:=U HN;clear bL aU T5;go_roundw
      case rel=>exact⟨k+1,_,ae,aY,HN.o _ ae⟩
      case measure=>exact aFF
    ·have t0:decide (x1≤t2+1)=false:=zJ;have mh:Hid (ik (o++[(t1,t2)]) (x1,x2)=(o++[(t1,t2)])++[(x1,x2)]):=U amd;clear hle;go_wp2
     go_big_quiet (fail)
     go_wp2_with fail;have FO:=U ((OO.o.alloc (.cells #[x1,x2] 41)).drewN nq);have HO:=U (fq HR.o (Bl.drewN (Bl.alloc (aB wr.heap.size wr) (.cells #[x1,x2] 41)) nq));have iR:BL wr ((wr.alloc (.cells #[x1,x2] 41)).drewN nq):=Bl.drewN (Bl.alloc (aB _ _) _) nq;have XB:Bx wr.heap.size [x1,x2] ((wr.alloc (.cells #[x1,x2] 41)).drewN nq):=(Bx.new rfl).drewN nq;generalize hwq:World.drewN (wr.alloc (.cells #[x1,x2] 41)) nq=wq at *;have HX:=FO;have c0:=(HX.o.cell c).trans (yU hlt);have hgq:=HX.o.lt;have pz:=XB.cell 0;have pE:=XB.cell 1;simp only[aK,bB]at pz pE;have hbq:=XB.lt;have hbs:b3≤wq.heap.size:=Et;clear hwq XB FO;refine iQ [7,10] [6,7,10] 1 [0,1,2,3] [(0,[4,5],6),(1,[],7),(0,[8,9],10)] [] [_,_,_,_] [(0,[_,_],6,_),(1,[],7,_),(0,[_,_],10,_)] [] ?_
     (repeat(go_big_quiet_step (first|fail)));refine aH (ku ?_)
     (repeat(first|(go_big_quiet_want;(first|apply bH eH bK rfl|apply bH eU bK rfl|apply bH eH gH rfl|apply bH eU gH rfl|apply bH eH fZ rfl|apply bH eU fZ rfl|apply bH eH mV rfl|apply bH eU mV rfl);(focus exact AU);(focus exact rfl);go_big_quiet_op;go_big_quiet_on)|go_big_quiet_step (fail)));refine aH ?_
     intro w2 hb2;have bL:=U (gV HO.o hb2);have hsz2:=hb2.size;go_wp2;refine dZ (Bl.alloc hb2 _) (rW ?_);go_wp2_with (at_builtin;go_loud (refine iE (bL.o.alloc _) ⟨w2.heap.size,0,none⟩ 1 1 [x1,x2] hi hz0 hz1 hz2 ?_);intro v5 w4 hown' hgrow bY;obtain⟨a9,c9,rfl⟩:=bv hown')
     refine bS _ rfl (iP ?_);have HF:=U (Ep (c:=c) HX.o hb2 HO.o hown' hgrow bY ae (yU hlt));obtain⟨zF,zR⟩:=HF.o.1
     (repeat(go_big_quiet_step (fail)));refine aH ?_
     intro nq;go_wp2;refine bS _ rfl (jl ?_);obtain⟨hx5,jX,t5,s5⟩:=HF.o.2 nq;have aU:=U hx5;have iA:=U jX;have T5:=U t5;have S5:=U s5;clear hx5 jX t5 s5 HF zF zR hgrow bY bL hown' hb2 hsz2;go_wp2_with fail;have HN:=U (mi.o _ _ _ iR aU.o (by rw[mh.o];exact wW iA.o rfl) T5.o);rw[show(o++[(t1,t2)]).length=o.length+1 from aj]at HN;go_roundw
     case rel=>exact⟨k+1,_,ae,aY,HN⟩
     case measure=>exact aFF
  ·have hkk:k=ts.length:=ae;go_wp2;go_end0;have HI2:=HI.o;refine⟨rfl,_,HI2.box,?_,?_⟩
   ·have:=HI2.row;rw[hkk,jc,FIN.o,←HZ.o]at this;rw[hkk,jc,FIN.o,←HZ.o];exact kJ (base:=b3) this ae
   ·exact⟨HI2.turns.os,HI2.turns.tape,HI2.turns.output,HI2.turns.size,λj hj hn=>HI2.turns.block j hj (λh=>by
     rcases h with h|h
     ·exact hn h
     ·exact absurd hj (Nat.not_lt.2 h))⟩
end
end Go.Proofs.YtfmckbjeofiegaaGreat
