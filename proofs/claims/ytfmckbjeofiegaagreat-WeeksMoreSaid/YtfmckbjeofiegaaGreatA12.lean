/- Part 12 of a proof. -/
import Derived.Test.YtfmckbjeofiegaaGreatA6
import Derived.Test.YtfmckbjeofiegaaGreatA8
import Derived.Test.YtfmckbjeofiegaaGreatA10
set_option maxRecDepth 100000
set_option maxHeartbeats 16000000
set_option linter.all false
open Go Go.RowKit Go.Proofs.Tryz
namespace Go.Proofs.YtfmckbjeofiegaaGreat
variable {f:aQ}{b r y:Int}{L l ys:List Sp}{cs vs:List Value}{B c i j k lo o:Nat}{A:Nat→Prop}{P:Program}{T:aT}{α β:Type}{v:Value}{W W':World}
section
attribute [local go_sem] Qv
attribute [local go_sem] Oper.semAt_some
def encI(x:Int×Value):Array Value:=#[.int .i64 x.1,x.2]
def uk(m:Nat)(vals:Nat→Value):List (Int×Value):=(List.range m).map λ(j:Nat)=>(((m-1-j:Nat):Int),vals (m-1-j))
theorem aqM{m:Nat}{vals:Nat→Value}(h:j<m):(uk m vals).take (j+1)=(uk m vals).take j++[(((m-1-j:Nat):Int),vals (m-1-j))]:=by
 have h1:j<(uk m vals).length:=by simp[uk];exact h
 rw[jF h1]
 congr 2
 simp[uk]
theorem aqN(Bv n:Nat)(a:Option Addr)(m c:Nat)(vals:Nat→Value)(w:World)(hb:Bx Bv [.slice a m c] w)(hm:m≤2^62)
  (hv:∀k,k<m→∃b o,a=some ⟨b,o,none⟩∧b<w.heap.size∧w.cell? ⟨b,o+k,none⟩=some (vals k)) :
  su prog n 282 #[.pointer (some ⟨Bv,0,none⟩)] encI (gZ Bv (.slice a m c)) (λys=>ys=uk m vals) m w:=by
 intro l J Jx W hW hJ hJx hY hj0;have cB:=U (hb.next hW)
 have Ci:Hid (∀k,k<m→∃b o,a=some ⟨b,o,none⟩∧b<W.heap.size∧W.cell? ⟨b,o+k,none⟩=some (vals k)):=U (λk hk=>by
  obtain⟨b,o,e,h1,h2⟩:=hv k hk
  exact⟨b,o,e,nH h1 hW.size,(hW.cell (p:=⟨b,o+k,none⟩) h1).trans h2⟩)
 clear hb hv;have HJ:=U hJ;have HY:=U hY;have hj0:=U hj0;clear hJ hY;have c0:W.cell? ⟨Bv,0,none⟩=some (.slice a m c):=cB.o.cell 0;have w0:IntKind.i64.wrap ((m:Int)-1)=(m:Int)-1:=dE _ ae;refine xV func282 rfl trivial ?_ rfl;simp only[ntmps282,jb,dS,fU,Nat.reduceAdd,Nat.reduceSub,kv,kw,kC,kz,fE,gB];have hfn:∀k,Fence.wide.fn k:=(λ_=>trivial);have hdp:¬(Fence.wide.depth.isSome=true):=kL;gi_wp2
 gi_loopw [3] (λs3 wr=>∃j:Nat,j≤m∧s3=.int .i64 ((m:Int)-1-j)∧Hid (J (λ_=>False) ((uk m vals).take j) wr)∧Hid (∀k,gZ Bv (.slice a m c) k→wr.heap[k]?=W.heap[k]?)∧W.heap.size≤wr.heap.size) (λs3 _=>(intOf s3+1).toNat)
 case atStart=>exact⟨0,ae,aj,hj0,U (λ_ _=>rfl),aV _⟩
 case round=>
  clear c0 w0;obtain⟨j,hj,rfl,gL,HR,hsz⟩:=hrel;by_cases hlt:j<m
  ·obtain⟨k,hk⟩:∃k,k=m-1-j:=⟨_,rfl⟩;obtain⟨b,o,rfl,hbl,d1⟩:=Ci.o k ae;have e1:=HR.o b (.inr ⟨_,_,_,rfl,ae,rfl⟩);have e0:=HR.o Bv (.inl rfl);have d1:wr.cell? ⟨b,o+k,none⟩=some (vals k):=(iL (w:=W) (w':=wr) (a:=⟨b,o+k,none⟩) e1).trans d1;have d0:wr.cell? ⟨Bv,0,none⟩=some (.slice (some ⟨b,o,none⟩) m c):=(iL (w:=W) (w':=wr) (a:=⟨Bv,0,none⟩) e0).trans (cB.o.cell 0);have HT:=U (aqM (vals:=vals) hlt);obtain⟨fn,tmps,assign,body,hy,hR⟩:=HY.o (λ_=>False) ((uk m vals).take j) ((k:Int),vals k) wr gL.o Wx ⟨_,rfl,by rw[hk,←HT.o];exact Ur _ _⟩ trivial;dsimp only[encI]at hy
   have jM:Hid (∀q,gZ Bv (.slice (some ⟨b,o,none⟩) m c) q→q<W.heap.size):=U (by
    rintro q (h|⟨a,n,c,e,_,h⟩)
    ·rw[h];exact cB.o.lt
    ·cases e
     rw[h];exact hbl)
   rw[←hk]at HT;have hkj:(m:Int)-1-j=(k:Int):=ae;rw[hkj];have i1:(0:Int)≤(k:Int):=ae;have i2:(k:Int)<m:=ae;generalize vals k=u at *;clear e1 e0 hk;gi_wp2_with fail;refine hR.mono ?_;rintro e W3 (⟨rfl,hJ3,hs3,hk3⟩|⟨rfl,hJ3,_,_⟩)
   ·have HR3:Hid (∀k,gZ Bv (.slice (some ⟨b,o,none⟩) m c) k→W3.heap[k]?=W.heap[k]?):=U (λq hq=>(hk3 q (.inl hq)).trans (HR.o q hq));have gK:=U hJ3;clear hk3 hJ3 hR hy d1 d0;gi_wp2;go_roundw
    case rel=>exact⟨j+1,ae,aia,by rw[HT.o];exact gK,HR3,ae⟩
    case measure=>simp[intOf]
   ·have gK:=U hJ3;clear hJ3 hR hy d1 d0;gi_wp2;go_end0;exact⟨⟨_,rfl⟩,λ_=>False,_,.inr gK.o⟩
  ·have hkk:j=m:=ae;have e0:=HR.o Bv (.inl rfl);have hneg:(m:Int)-1-j=-1:=ae;rw[hneg];gi_wp2;go_end0;refine⟨⟨_,rfl⟩,λ_=>False,uk m vals,.inl ⟨rfl,?_⟩⟩;have:=gL.o;rw[hkk,show(uk m vals).take m=uk m vals by rw[FY];simp[uk]]at this;exact this
theorem aqK(a:Option Addr)(n c:Nat)(w:World):Calls prog 239 #[.slice a n c] w λe w'=>e=.returned (.func (.func 282) #[] #[.pointer (some ⟨w.heap.size,0,none⟩)])∧w'=w.alloc (.cells #[.slice a n c] 137):=by
 go_in;go_wp2;go_ret;exact⟨rfl,rfl⟩
theorem aC.vals{s:Shape α}{w:World}{a:Option Addr}{n:Nat}{xs:List (List α)}(h:aC s.list w (.slice a n c) xs):
  ∃vals:Nat→Value,∀k (hk:k<xs.length),∃b o,a=some ⟨b,o,none⟩∧b<w.heap.size∧w.cell? ⟨b,o+k,none⟩=some (vals k)∧aC s w (vals k) xs[k]:=by
 have H:∀k,∃v,∀(hk:k<xs.length),∃b o,a=some ⟨b,o,none⟩∧b<w.heap.size∧w.cell? ⟨b,o+k,none⟩=some v∧aC s w v xs[k]:=λk=>by
  by_cases hk:k<xs.length
  ·obtain⟨b,o,v,e,h1,h2,h3⟩:=h.list_at hk;exact⟨v,λ_=>⟨b,o,e,h1,h2,h3⟩⟩
  ·exact⟨undef,λh=>absurd h hk⟩
 exact⟨λk=>Classical.choose (H k),λk=>Classical.choose_spec (H k)⟩
def qd:Int→List (List dK)→Bool
 |_,[]=>true
 |next,l::r=>sU next l&&qd l.length r
def zM(T:aT):Int:=if 1≤T.length∧T.length≤401 then(if qd 0 T.reverse=true then 0 else 40)else 40
theorem aAe(next:Int){T:List (List dK)}(h:k<T.length):qd next (T.drop k)=(sU next T[k]&&qd T[k].length (T.drop (k+1))):=by
 rw[J4 h];rfl
theorem Wp(fn:Func)(p:Tmp)(hf:fn.results=#[.cell p 34])(tmps:Array Value)(w:World)(g:Nat)(n:Int)(hp:tmps.getD p undef=.pointer (some ⟨g,0,none⟩))(hc:w.cell? ⟨g,0,none⟩=some (.int .i64 n)):(results fn tmps).run prog w=.ok (.int .i64 n) w:=by
 have hp':tmps[p]?.getD undef=.pointer (some ⟨g,0,none⟩):=Oh;simp[results,hf,hp',asAddr,go_sem,hc]
def OD(w:World)(T:aT)(pre:List (Int×Value))(W:World):Prop:=
 ∃next:Int,Bx (w.heap.size+1) [.int .i64 0] W∧Bx (w.heap.size+1+1) [next] W∧BL w W∧Hid (qd 0 T.reverse=qd next (T.reverse.drop pre.length))
def Td(w:World)(T:aT)(c:Code)(W:World):Prop:=c=.ret∧Bx (w.heap.size+1) [.int .i64 40] W∧BL w W∧Hid (zM T=40)
theorem OD.turns{w:World}{pre:List (Int×Value)}{own:Nat→Prop}{A B:World}(h:OD w T pre A)(t:aA own A B)(ho:∀k,own k→w.heap.size+4≤k):OD w T pre B:=by
 obtain⟨n,h1,h2,h3,h4⟩:=h;exact⟨n,h1.turns t (λe=>VC),h2.turns t (λe=>VC),aA.below h3 t h3.size (λk e=>VC),h4⟩
theorem Td.turns{w:World}{c:Code}{own:Nat→Prop}{A B:World}(h:Td w T c A)(t:aA own A B)(ho:∀k,own k→w.heap.size+4≤k):Td w T c B:=by
 obtain⟨h0,h1,h3,h4⟩:=h;exact⟨h0,h1.turns t (λe=>VC),aA.below h3 t h3.size (λk e=>VC),h4⟩
theorem aqL{m:Nat}{vals:Nat→Value}{pre:List (Int×Value)}{x:Int×Value}(h:∃ys,ys=uk m vals∧(pre++[x]) <+: ys):pre.length<m∧x=(((m-1-pre.length:Nat):Int),vals (m-1-pre.length)):=by
 obtain⟨_,rfl,h⟩:=h;have hl:=h.length_le;have h2:(uk m vals).length=m:=by simp[uk]
 rw[h2]at hl;simp only[dn,Uo]at hl;refine⟨ae,?_⟩;have h3:=h.getElem (i:=pre.length) aj;rw[Um (aV _)]at h3;simpa[uk]using h3
theorem ani(v:Value)(T:aT)(w:World)(hv:aC Shape.nod.list w v T):Calls prog 175 #[.agg #[v]] w (Eg (zM T) w):=by
 obtain⟨a,c,rfl,hc1,hc2⟩:=hv.shape;unfold maxLen at hc2;have HV:=U hv;clear hv;refine(xW (n:=3)).1 ?_;refine zb func175 rfl trivial ?_ rfl;simp only[ntmps175,jb,dS,fU,Nat.reduceAdd,Nat.reduceSub,kv,kw,kC,kz,fE,gB];have hfn:∀k,Fence.wide.fn k:=λ_=>trivial;have hdp:¬(Fence.wide.depth.isSome=true):=kL;by_cases h1:(T.length:Int)<1
 ·have HF:Hid (zM T=40):=U (aD ae);have d1:decide ((T.length:Int)<1)=true:=qO;gi_wp2_with fail;have XR:=Bx.new (W:=w.alloc (.cells #[.slice a T.length c] 139)) (B:=w.heap.size+1) (t:=34) (vs:=[.int .i64 40]) aj;exact⟨_,Wp _ 2 rfl _ _ _ _ rfl (XR.cell 0),ayQ⟩
 have d1:decide ((T.length:Int)<1)=false:=qO;by_cases h2:(401:Int)<T.length
 ·have HF:Hid (zM T=40):=U (aD ae);have d2:decide ((401:Int)<T.length)=true:=xw;gi_wp2_with fail;have XR:=Bx.new (W:=w.alloc (.cells #[.slice a T.length c] 139)) (B:=w.heap.size+1) (t:=34) (vs:=[.int .i64 40]) aj;exact⟨_,Wp _ 2 rfl _ _ _ _ rfl (XR.cell 0),ayQ⟩
 have d2:decide ((401:Int)<T.length)=false:=xw;obtain⟨vals,VS⟩:=HV.o.vals;gi_wp2_with fail;refine(jH jJ (aqK _ _ _ _)).mono ?_;rintro e w3 ⟨rfl,rfl⟩;gi_wp2_with fail;have XV:=Bx.new (W:=((w.alloc (.cells #[.slice a T.length c] 139)).alloc (.cells #[.int .i64 0] 34)).alloc (.cells #[.int .i64 0] 3)) (B:=w.heap.size+1+1+1) (t:=137) (vs:=[.slice a T.length c]) aj;have XN:=(Bx.new (W:=(w.alloc (.cells #[.slice a T.length c] 139)).alloc (.cells #[.int .i64 0] 34)) (B:=w.heap.size+1+1) (t:=3) (vs:=[.int .i64 0]) aj).alloc (.cells #[.slice a T.length c] 137);have XR:=((Bx.new (W:=w.alloc (.cells #[.slice a T.length c] 139)) (B:=w.heap.size+1) (t:=34) (vs:=[.int .i64 0]) aj).alloc (.cells #[.int .i64 0] 3)).alloc (.cells #[.slice a T.length c] 137);have hB4:BL w ((((w.alloc (.cells #[.slice a T.length c] 139)).alloc (.cells #[.int .i64 0] 34)).alloc (.cells #[.int .i64 0] 3)).alloc (.cells #[.slice a T.length c] 137)):=Bl.alloc (Bl.alloc (Bl.alloc (Bl.alloc (aB _ _) _) _) _) _;have hs4:((((w.alloc (.cells #[.slice a T.length c] 139)).alloc (.cells #[.int .i64 0] 34)).alloc (.cells #[.int .i64 0] 3)).alloc (.cells #[.slice a T.length c] 137)).heap.size=w.heap.size+4:=aj
 generalize ((((w.alloc (.cells #[.slice a T.length c] 139)).alloc (.cells #[.int .i64 0] 34)).alloc (.cells #[.int .i64 0] 3)).alloc (.cells #[.slice a T.length c] 137))=W4 at *
 have jM:Hid (∀k,gZ (w.heap.size+1+1+1) (.slice a T.length c) k→k=w.heap.size+3∨k<w.heap.size):=U (by
  rintro k (h|⟨a,n,c,e,h0,h⟩)
  ·exact .inl h
  ·cases e;obtain⟨b,o,e,hb,_⟩:=VS 0 h0;cases e
   exact .inr (by rw[h];exact hb))
 have SQ:=U (aqN (w.heap.size+1+1+1) (3-1) a T.length c vals W4 XV ae (λk hk=>by
  obtain⟨b,o,e,h1,h2,_⟩:=VS k hk
  exact⟨b,o,e,by have:=hB4.size;omega,(hB4.cell (p:=⟨b,o+k,none⟩) h1).trans h2⟩))
 have Ak:=U VS;clear VS XV
 refine E8 (gf:=282) (lb:=#[.pointer (some ⟨w.heap.size+1+1+1,0,none⟩)]) rfl (fo func282 aF rfl) SQ.o (λk hk=>by have:=jM.o k hk;omega) (λ_=>rfl)
  (λ_ pre W=>OD w T pre W) ?hI (λc _ _ W=>Td w T c W) ?hIx ?h0
  (λ_ pre x a1 W=>pre.length<T.length∧x=(((T.length-1-pre.length:Nat):Int),vals (T.length-1-pre.length))∧OD w T pre W∧a1={ tmps:=#[.agg #[.slice a T.length c],.pointer (some ⟨w.heap.size,0,none⟩),.pointer (some ⟨w.heap.size+1,0,none⟩),.pointer (some ⟨w.heap.size+1+1,0,none⟩),undef,x.2,.pointer (some ⟨w.heap.size,0,none⟩),.slice a T.length c,.int .i64 T.length,.bool false,.bool false,.pointer (some ⟨w.heap.size,0,none⟩),.slice a T.length c,.int .i64 T.length,.bool false,.bool false,.pointer (some ⟨w.heap.size,0,none⟩),.slice a T.length c,.func (.func 282) #[] #[.pointer (some ⟨w.heap.size+1+1+1,0,none⟩)],.int .i64 x.1,x.2,undef,undef,undef,undef,undef,undef],defers:=[] }) ?hAx ?assign ?body ?done ?stop
 case hI=>
  intro own own' s A B hi ho hs ht hw;exact hi.turns ht (λk hk=>ayq)
 case hIx=>
  intro c own own' s A B hi ho hs ht hw;exact hi.turns ht (λk hk=>ayq)
 case h0=>exact⟨0,XR,XN,hB4,U rfl⟩
 case hAx=>
  rintro own pre x a1 A B ⟨h1,h2,h3,h4⟩ ho ht hlt hsz;exact⟨h1,h2,h3.turns ht (λk hk=>ae),h4⟩
 case assign=>
  rintro ll own pre x W hi ho hs hlt hpre _ _;obtain⟨p1,p2⟩:=aqL hpre;unfold encI;have P2:=U p2;clear hpre p2;gi_wp2;refine⟨fG.refl _ _ _ _,p1,P2.o,hi,?_⟩;first|trivial|rfl
 case body=>
  rintro ll own pre x a1 W ⟨p1,p2,⟨next,YR,YN,hb,HS⟩,rfl⟩ ho hs hlt;intro hpre;clear hpre;subst p2;obtain⟨k,hk⟩:∃k,k=T.length-1-pre.length:=⟨_,rfl⟩;rw[←hk];have hkl:k<T.length:=ae;obtain⟨_,_,_,_,_,HN⟩:=Ak.o k hkl;have hs4:=hs4
  have HS2:Hid (qd 0 T.reverse=(sU next T[k]&&qd T[k].length (T.reverse.drop (pre.length+1)))):=U (by
   rw[HS.o,aAe next (T:=T.reverse) (k:=pre.length) (by rw[List.length_reverse];omega)]
   simp only[Zr,hk])
  obtain⟨a5,c5,e5,_,_⟩:=HN.shape;have qB:=U (HN.below hb);clear HN;generalize vals k=u at *;subst e5;generalize T[k]=st at *;have q0:=YN.cell 0;have q1:=YN.free 0;have q2:=YN.lt;have r0:=YR.cell 0;have r1:=YR.free 0;have r2:=YR.lt;simp only[aK]at q0 r0;have UR:=U YR;have YN':=U YN;clear YR YN;obtain⟨t,HT⟩:∃t,Hid (sU next st=t):=⟨_,rfl⟩;have CALL:=U (awk (.slice a5 st.length c5) st next W qB.o);rw[HT.o]at CALL
  have anx:Hid (∀w1,BL W w1→fG W4.heap.size (gZ (w.heap.size+1+1+1) (.slice a T.length c)) own W w1):=U (λw1 hb1=>fG.of_below hb1 λq hq=>by
   rcases hq with h|h|h|h
   ·have:=jM.o q h;omega
   ·exact(ho q h).2
   ·omega
   ·omega)
  have hnot:∀j,j=w.heap.size+1∨j=w.heap.size+1+1→¬(gZ (w.heap.size+1+1+1) (.slice a T.length c) j∨own j∨j=W4.heap.size∨j=W4.heap.size+1):=by
   rintro j hj (h|h|h|h)
   ·have:=jM.o j h;omega
   ·have:=ho j h;omega
   ·omega
   ·omega
  have afa:=U hnot;clear hnot;cases t
  ·have HF:Hid (zM T=40):=U (by rw[zM,HS2.o,HT.o];simp);clear HS2 HS Ak;gi_wp2_with fail;refine(jH (E5 _) CALL.o).mono ?_;rintro e w1 ⟨rfl,hb1⟩;have r0':=kept hb1 r0;have r1':=akF hb1 r2 r1;have hb2:=Bl.call hb hb1;gi_wp2_with fail;exact⟨(anx.o _ hb1).trans (fG.setCell _ _ _ (afa.o _ (.inl rfl))),rfl,(UR.o.next hb1).set 0 _ aj,Bl.setCell hb2 aj _,HF⟩
  ·have D5:Hid (qd 0 T.reverse=qd st.length (T.reverse.drop (pre++[((k:Int),Value.slice a5 st.length c5)]).length)):=U (by rw[HS2.o,HT.o,DL];simp);clear HS2 HS Ak;gi_wp2_with fail;refine(jH (E5 _) CALL.o).mono ?_;rintro e w1 ⟨rfl,hb1⟩;have RO:=kept hb1 q0;have q1':=akF hb1 q2 q1;have hb2:=Bl.call hb hb1;gi_wp2_with fail;exact⟨(anx.o _ hb1).trans (fG.setCell _ _ _ (afa.o _ (.inr rfl))),_,(UR.o.next hb1).far aj _,(YN'.o.next hb1).set 0 _ aj,Bl.setCell hb2 bC _,D5⟩
 case done=>
  rintro own ls W rfl ⟨next,YR,YN,hb,HS⟩ ho hs hK
  have HF:Hid (zM T=0):=U (by
   rw[zM,aG ae,HS.o,PS (by simp[uk]),qd,aG rfl])
  have r0:=YR.cell 0;have r1:=YR.free 0;have r2:=YR.lt;simp only[aK]at r0;have UR:=U YR;clear YR YN HS;gi_wp2_with fail;have hK2:(W.setCell ⟨w.heap.size+1,0,none⟩ (.int .i64 0)).heap[W4.heap.size]?=some (.deferred (some [])):=(JD _ _ _ _ (by show W4.heap.size≠w.heap.size+1;omega)).trans hK;refine⟨aj,.inl ⟨_,_,rfl,sO hK2,?_⟩⟩;have YP:=(UR.o.set 0 (.int .i64 0) aj).turns (aA.putObj _ W4.heap.size (.deferred none)) (λe=>ae);exact⟨_,Wp _ 2 rfl _ _ _ _ rfl (YP.cell 0),by rw[HF.o];exact⟨rfl,(Bl.setCell hb aj _).trans (AO (w:=w) (aV _) _ _ _ _ hB4.size hK2 rfl rfl)⟩⟩
 case stop=>
  rintro c own xs W ⟨rfl,YR,hb,HF⟩ ho hs hK;gi_wp2_with fail;refine⟨aj,.inl ⟨_,_,rfl,sO hK,?_⟩⟩;have YP:=YR.turns (aA.putObj W W4.heap.size (.deferred none)) (λe=>ae);exact⟨_,Wp _ 2 rfl _ _ _ _ rfl (YP.cell 0),by rw[HF.o];exact⟨rfl,hb.trans (AO (w:=w) (aV _) W _ _ _ hB4.size hK rfl rfl)⟩⟩
theorem aqy(v:Value)(T:aT)(k:Nat)(w:World)(hv:aC Shape.nod.list w v T)(hk:k<T.length):
  Calls prog 343 #[.agg #[v],k] w λe w'=>∃u,e=.returned u∧aC Shape.nod w u T[k]∧BL w w':=by
 obtain⟨a,c,rfl,hc1,hc2⟩:=hv.shape;unfold maxLen at hc2;obtain⟨b,o,u,rfl,hb,h1,h2⟩:=hv.list_at hk;have i1:(0:Int)≤(k:Int):=ae;have i2:(k:Int)<T.length:=ae;obtain⟨a2,c2,rfl,_,_⟩:=h2.shape;have H2:=U h2;clear h2 hv;generalize T[k]=st at *;go_in;go_wp2;go_ret;exact⟨_,rfl,H2.o,Bl.alloc (aB _ _) _⟩
theorem aqI(v:Value)(T:aT)(w:World)(hv:aC Shape.nod.list w v T):
  Calls prog 344 #[.agg #[v]] w (Eg T.length w):=by
 obtain⟨a,c,rfl,hc1,hc2⟩:=hv.shape;go_in;go_wp2;go_ret;exact⟨rfl,Bl.alloc (aB _ _) _⟩
theorem ag8(v:Value)(k:Int)(w:World):
  Calls prog 345 #[.agg #[v],k] w λe w'=>e=.returned (.func (.func 346) #[] #[.pointer (some ⟨w.heap.size,0,none⟩),.pointer (some ⟨w.heap.size+1,0,none⟩)])∧w'=(w.alloc (.cells #[v] 321)).alloc (.cells #[k] 3):=by
 go_in;go_wp2;go_ret;exact⟨rfl,rfl⟩
theorem aqY(v:Value)(T:aT)(k j:Nat)(w:World)(hv:aC Shape.nod.list w v T)(hk:k<T.length)(hj:j+k+1=T.length):
  Calls prog 347 #[.agg #[v],j] w λe w'=>∃u,e=.returned u∧aC Shape.nod w u T[k]∧BL w w':=by
 obtain⟨a,c,rfl,hc1,hc2⟩:=hv.shape;unfold maxLen at hc2;obtain⟨b,o,u,rfl,hb,h1,h2⟩:=hv.list_at hk;have i1:(0:Int)≤(k:Int):=ae;have i2:(k:Int)<T.length:=ae;obtain⟨a2,c2,rfl,_,_⟩:=h2.shape;have H2:=U h2;clear h2 hv;have w1:IntKind.i64.wrap ((T.length:Int)-1)=(T.length:Int)-1:=dE _ ae;have w2:IntKind.i64.wrap ((T.length:Int)-1-(j:Int))=(k:Int):=amh;generalize T[k]=st at *;go_in;go_wp2;go_ret;exact⟨_,rfl,H2.o,Bl.alloc (aB _ _) _⟩
theorem aqZ(v:Value)(T:aT)(w:World)(hv:aC Shape.nod.list w v T):
  Calls prog 348 #[.agg #[v]] w (Eg T.length w):=by
 obtain⟨a,c,rfl,hc1,hc2⟩:=hv.shape;go_in;go_wp2;go_ret;exact⟨rfl,Bl.alloc (aB _ _) _⟩
theorem aq0(v:Value)(k:Int)(w:World):
  Calls prog 349 #[.agg #[v],k] w λe w'=>e=.returned (.func (.func 350) #[] #[.pointer (some ⟨w.heap.size,0,none⟩),.pointer (some ⟨w.heap.size+1,0,none⟩)])∧w'=(w.alloc (.cells #[v] 322)).alloc (.cells #[k] 3):=by
 go_in;go_wp2;go_ret;exact⟨rfl,rfl⟩
abbrev Hop:=(Int×Int)×Sp
def Kt(x:Hop):Array Value:=#[.agg #[.int .i64 x.1.1,.int .i64 x.1.2],.agg #[.int .i64 x.2.1,.int .i64 x.2.2]]
def mG(k:Nat)(es:List lG):List Hop:=es.map λe=>(((k:Int),e.1),e.2)
def jk(st:List dK)(k:Nat):List Hop:=(List.range k).flatMap λj=>mG j (aI st j).2
def qo(st:List dK):List Hop:=jk st st.length
theorem am6{st:List dK}(h:k<st.length):jk st (k+1)=jk st k++mG k st[k].2:=by
 have e:aI st k=st[k]:=amO;rw[jk,jq,mO];simp[jk,e]
theorem aAg{m:Nat}{es:List lG}(h:m<es.length):mG k (es.take (m+1))=mG k (es.take m)++[(((k:Int),es[m].1),es[m].2)]:=by
 rw[jF h,mG,iT];rfl
theorem aAi(st:List dK):∀ {k m:Nat},k≤m→(jk st k).length≤(jk st m).length
 |k,m,h=>by
  obtain⟨d,rfl⟩:∃d,m=k+d:=⟨m-k,ae⟩;have e:List.range (k+d)=List.range k++(List.range d).map (k+·):=agq;simp only[jk,e,mO,dn];omega
theorem aAj(st:List dK):∀ {k m:Nat},k≤m→jk st k <+: jk st m
 |k,m,h=>by
  obtain⟨d,rfl⟩:∃d,m=k+d:=⟨m-k,ae⟩;have e:List.range (k+d)=List.range k++(List.range d).map (k+·):=agq;simp only[jk,e,mO];exact PZ _ _
theorem aAh{st:List dK}{m:Nat}{es:List lG}(hk:k<st.length)(he:st[k].2=es):jk st k++mG k (es.take m) <+: qo st:=by
 subst he;have h1:=aAj st (show k+1≤st.length from ae);rw[am6 hk]at h1;have h2:mG k (st[k].2.take m) <+: mG k st[k].2:=by rw[mG,agn];exact Ur _ _
 exact((List.prefix_append_right_inj _).2 h2).trans h1
theorem acH{s:Shape α}{w:World}{a:Option Addr}{n:Nat}{xs:List α}(h:s.list.reads A w [.slice a n c] xs)(h0:0<xs.length):∃b o,a=some ⟨b,o,none⟩∧b<w.heap.size∧A b:=by
 obtain⟨a',c',h,h1,h2,h3⟩:=h;simp only[oC,qY,qZ]at h;obtain⟨rfl,rfl,rfl⟩:=h;obtain⟨b,o,e,hb,hA,_⟩:=h3 h0;exact⟨b,o,e,hb,hA⟩
theorem acG{s:Shape α}{w:World}{a:Option Addr}{n:Nat}{xs:List α}(h:s.list.reads A w [.slice a n c] xs)(hk:k<xs.length):
  ∃b o cs,a=some ⟨b,o,none⟩∧s.reads A w cs xs[k]∧∀j,j<s.n→w.cell? ⟨b,o+k*s.n+j,none⟩=cs[j]?:=by
 obtain⟨a',c',h,h1,h2,h3⟩:=h;simp only[oC,qY,qZ]at h;obtain⟨rfl,rfl,rfl⟩:=h;obtain⟨b,o,e,hb,hA,hr⟩:=h3 ae;obtain⟨cs,g1,g2⟩:=hr k hk;exact⟨b,o,cs,e,g1,g2⟩
theorem kK{s:Shape α}{w:World}{xs:List α}(h:s.list.reads A w [v] xs):aC s w v xs:=Shape.mono _ h (λ_ _ _=>trivial)
theorem ag0(Ba Bs N0 n N:Nat)(v:Value)(T:aT)(s:Nat)(w:World)(hA:Bx Ba [v] w)(hS:Bx Bs [s] w)(hv:Shape.nod.list.list.reads (λb=>b<N0) w [v] T)(hs:s<T.length)(hN0:N0≤w.heap.size)(hN:(qo T[s]).length≤N):
  su prog n 346 #[.pointer (some ⟨Ba,0,none⟩),.pointer (some ⟨Bs,0,none⟩)] Kt (λk=>k<N0∨k=Ba∨k=Bs) (λys=>ys=qo T[s]) N w:=by
 intro l J Jx W hW hJ hJx hY hj0;have DN:=U (hA.next hW);have FE:=U (hS.next hW);have Ci:Hid (Shape.nod.list.list.reads (λb=>b<N0) W [v] T):=U (Shape.keep _ hv (Same.below hW));clear hA hS hv;have HJ:=U hJ;have HY:=U hY;have hj0:=U hj0;clear hJ hY;have HL:aC Shape.nod.list W v T:=Shape.mono _ Ci.o (λ_ _ _=>trivial);obtain⟨a,c,rfl,hc1,hc2⟩:=HL.shape;unfold maxLen at hc2;obtain⟨b,o,u,rfl,hb,h1,h2⟩:=HL.list_at hs;have i1:(0:Int)≤(s:Int):=ae;have i2:(s:Int)<T.length:=ae;obtain⟨a2,c2,rfl,hd1,hd2⟩:=h2.shape;unfold maxLen at hd2;have c0:W.cell? ⟨Ba,0,none⟩=some (.slice (some ⟨b,o,none⟩) T.length c):=DN.o.cell 0;have c1:W.cell? ⟨Bs,0,none⟩=some (.int .i64 s):=FE.o.cell 0
 have Fx:Hid (Shape.nod.list.reads (λb=>b<N0) W [.slice a2 T[s].length c2] T[s]):=U (by
  obtain⟨b',o',cs,e',hr',hc'⟩:=acG Ci.o hs;cases e';obtain⟨u',rfl,hr'⟩:=EI.1 hr';have h5:=hc' 0 (show 0<1 from ae);have h6:Shape.nod.list.n=1:=rfl;rw[h6]at h5;simp only[FZ,oI,aK]at h5;rw[h1]at h5;cases h5
  exact hr')
 clear h2 HL;generalize T[s]=st at *;clear Ci;refine xV func346 rfl trivial ?_ rfl;simp only[ntmps346,jb,dS,fU,Nat.reduceAdd,Nat.reduceSub,kv,kw,kC,kz,fE,gB];have hfn:∀k,Fence.wide.fn k:=(λ_=>trivial);have hdp:¬(Fence.wide.depth.isSome=true):=kL;gi_wp2_with fail
 have Fq:Hid (∀q,(q<N0∨q=Ba∨q=Bs)→q<W.heap.size):=U (by
  have:=hW.size;rintro q (h|rfl|rfl)
  ·omega
  ·exact DN.o.lt
  ·exact FE.o.lt)
 clear c0 c1 h1
 gi_loopw [15] (λs15 wr=>∃k:Nat,k≤st.length∧s15=.int .i64 k∧Hid (J (λ_=>False) (jk st k) wr)∧Hid (∀q,(q<N0∨q=Ba∨q=Bs)→wr.heap[q]?=W.heap[q]?)∧W.heap.size≤wr.heap.size) (λs15 _=>st.length-(intOf s15).toNat)
 case atStart=>exact⟨0,ae,rfl,hj0,U (λ_ _=>rfl),aV _⟩
 case round=>
  obtain⟨k,hk,rfl,gL,HR,hsz⟩:=hrel;by_cases hlt:k<st.length
  ·obtain⟨b2,o2,e2,_,hA2⟩:=acH Fx.o ae;obtain⟨b3,o3,u1,u2,e3,d1,d2,L1,L2⟩:=(kK Fx.o).nod_at hlt;subst e2;cases e3
   have hE:Hid (Shape.trip.list.reads (λb=>b<N0) W [u2] st[k].2):=U (by
    obtain⟨b',o',cs,e',hr',hc'⟩:=acG Fx.o hlt;cases e';obtain⟨v1,v2,rfl,g1,g2⟩:=zz.1 hr';have h5:=hc' 1 (show 1<2 from ae);have h6:Shape.nod.n=2:=rfl;rw[h6]at h5;simp only[bB,aK]at h5;rw[d2]at h5;cases h5
    exact g2)
   have e1:=HR.o b2 (.inl hA2);have d1:wr.cell? ⟨b2,o2+k*2,none⟩=some u1:=(iL (w:=W) (w':=wr) (a:=⟨b2,o2+k*2,none⟩) e1).trans d1;have d2:wr.cell? ⟨b2,o2+k*2+1,none⟩=some u2:=(iL (w:=W) (w':=wr) (a:=⟨b2,o2+k*2+1,none⟩) e1).trans d2;obtain⟨a4,c4,rfl,_,hc4⟩:=L2.shape;unfold maxLen at hc4;obtain⟨a6,c6,rfl,_,_⟩:=L1.shape;clear L1 L2 e1;have HT:=U (am6 hlt);have Yv:=U (aAi st (show k+1≤st.length from ae));have JL:Hid (∀m,jk st k++mG k (st[k].2.take m) <+: qo st):=U (λm=>aAh hlt rfl);generalize st[k].2=es at *;generalize hpq:st[k].1.length=pq at *;have i3:(0:Int)≤(k:Int):=ae;have i4:(k:Int)<st.length:=ae;have HJ2:=U (HJ.o _ _ _ wr (wr.alloc (.cells #[.slice a6 pq c6,.slice a4 es.length c4] 207)) gL.o (aA.alloc _ _ _) (λ_ h=>.inl h))
   have HR2:Hid (∀q,(q<N0∨q=Ba∨q=Bs)→(wr.alloc (.cells #[.slice a6 pq c6,.slice a4 es.length c4] 207)).heap[q]?=W.heap[q]?):=U (λq hq=>by
    have:=Fq.o q hq
    exact(DJ wr _ q ae).trans (HR.o q hq))
   have hsx:W.heap.size≤(wr.alloc (.cells #[.slice a6 pq c6,.slice a4 es.length c4] 207)).heap.size:=bC;gi_wp2_with fail;clear d1 d2 gL HR hsz
   gi_loopw [23] (λWE wi=>∃m:Nat,m≤es.length∧WE=.int .i64 m∧Hid (J (λ_=>False) (jk st k++mG k (es.take m)) wi)∧Hid (∀q,(q<N0∨q=Ba∨q=Bs)→wi.heap[q]?=W.heap[q]?)∧W.heap.size≤wi.heap.size) (λWE _=>es.length-(intOf WE).toNat)
   case atStart=>exact⟨0,ae,rfl,by simpa[mG]using HJ2,HR2,hsx⟩
   case round=>
    clear HJ2 HR2 hsx;obtain⟨m,hm,rfl,gL,HR,hsz⟩:=hrel;by_cases hlm:m<es.length
    ·obtain⟨b7,o7,e7,_,hA7⟩:=acH hE.o ae;obtain⟨b8,o8,e8,d1,d2,d3⟩:=(kK hE.o).trip_at hlm;subst e7;cases e8;have e1:=HR.o b7 (.inl hA7);have d1:=(iL (w:=W) (a:=⟨b7,o7+m*3,none⟩) e1).trans d1;have d2:=(iL (w:=W) (a:=⟨b7,o7+m*3+1,none⟩) e1).trans d2;have d3:=(iL (w:=W) (a:=⟨b7,o7+m*3+2,none⟩) e1).trans d3;have HT2:=U (aAg (k:=k) hlm)
     have DY:Hid ((jk st k++mG k (es.take m)).length<N):=U (by
      have h1:=Yv.o;rw[HT.o]at h1;have h2:(mG k es).length=es.length:=by simp[mG]
      have h3:(mG k (es.take m)).length=m:=by simp[mG];omega
      rw[dn,h2]at h1;rw[dn,h3];have h4:(jk st st.length).length≤N:=hN
      omega)
     generalize es[m]=x at *;obtain⟨t,x1,x2⟩:=x;simp only at d1 d2 d3 HT2;obtain⟨fn,tmps,assign,body,hy,hR⟩:=HY.o (λ_=>False) (jk st k++mG k (es.take m)) (((k:Int),t),(x1,x2)) (wr.alloc (.cells #[t,x1,x2] 209)) (HJ.o _ _ _ wr _ gL.o (aA.alloc _ _ _) (λ_ h=>.inl h)) DY.o ⟨_,rfl,by rw[yS,←HT2.o];exact JL.o _⟩ trivial;dsimp only[Kt]at hy;have i5:(0:Int)≤(m:Int):=ae;have i6:(m:Int)<es.length:=ae;clear e1;gi_wp2_with fail;refine hR.mono ?_;rintro e W3 (⟨rfl,hJ3,hs3,hk3⟩|⟨rfl,hJ3,_,_⟩)
     ·have HR3:Hid (∀q,(q<N0∨q=Ba∨q=Bs)→W3.heap[q]?=W.heap[q]?):=U (λq hq=>by
       have h1:=Fq.o q hq
       exact((hk3 q (.inl hq)).trans (DJ wr _ q ae)).trans (HR.o q hq))
      have gK:=U hJ3;simp only[fH]at hs3;clear hk3 hJ3 hR hy d1 d2 d3;gi_wp2;go_roundw
      case rel=>exact⟨m+1,ae,aY,by rw[HT2.o,←yS];exact gK,HR3,ae⟩
      case measure=>exact aFF
     ·have gK:=U hJ3;clear hJ3 hR hy d1 d2 d3;gi_wp2;go_end0;exact⟨⟨_,rfl⟩,λ_=>False,_,.inr gK.o⟩
    ·have hmm:m=es.length:=ae
     have yM:Hid (J (λ_=>False) (jk st (k+1)) wr):=U (by
      have:=gL.o;rw[hmm,jc]at this
      rw[HT.o];exact this)
     clear gL;gi_wp2;go_roundw
     case rel=>exact⟨k+1,ae,aY,yM,HR,hsz⟩
     case measure=>exact aFF
  ·have hkk:k=st.length:=ae;gi_wp2;go_end0;refine⟨⟨_,rfl⟩,λ_=>False,qo st,.inl ⟨rfl,?_⟩⟩;have:=gL.o;rw[hkk]at this;exact this
def sM(x:Hop):Hop:=((x.1.2,x.1.1),(-x.2.2,-x.2.1))
def ry(lo B:Nat)(own:Nat→Prop)(W:World)(k:Nat):Prop:=((lo≤k∧k<B+2)∨own k)∧k<W.heap.size
theorem sw{J:(Nat→Prop)→β→World→Prop}(hJ:E9 J){own own':Nat→Prop}{s:β}{A A':World}(hi:J (ry lo B own A) s A)(hlo:lo≤B)
  (ht:aA (λk=>own k∨k=B∨k=B+1) A A') (hw:∀k,own' k→own k∨(A.heap.size≤k∧k<A'.heap.size)):J (ry lo B own' A') s A':=by
 refine hJ _ _ _ _ _ hi ⟨ht.os,ht.tape,ht.output,ht.size,λk hk hn=>ht.block k hk (λh=>hn ⟨?_,hk⟩)⟩ ?_
 ·rcases h with h|h|h
  ·exact .inr h
  ·exact .inl ⟨ae,ae⟩
  ·exact .inl ⟨ae,ae⟩
 ·rintro k ⟨h,hk⟩;by_cases hA:k<A.heap.size
  ·rcases h with h|h
   ·exact .inl ⟨.inl h,hA⟩
   ·rcases hw k h with h|h
    ·exact .inl ⟨.inr h,hA⟩
    ·omega
  ·exact .inr ⟨ae,hk⟩
theorem Bx.block{b:Nat}{A B:World}(h:Bx b vs A)(e:B.heap[b]?=A.heap[b]?)(hs:A.heap.size≤B.heap.size):Bx b vs B:=
 ⟨Nat.lt_of_lt_of_le h.lt hs,λj=>(World.cell?_of_block (w:=A) (w':=B) (a:=⟨b,j,none⟩) e).trans (h.cell j),λj=>by have:=h.free j;unfold World.frozen? at *;dsimp only at *;rw[e];exact this⟩
theorem MP{J:(Nat→Prop)→β→World→Prop}(hJ:E9 J){own:Nat→Prop}{s:β}(hi:J (ry lo B own W) s W')(hB:B+2≤W.heap.size)(ho:∀k,own k→k<W.heap.size):J (ry lo B own W') s W':=
 hJ _ _ _ _ _ hi (aA.refl _ _) (λk hk=>.inl ⟨hk.1,by rcases hk.1 with h|h;omega;exact ho k h⟩)
theorem acI{ll m m':Nat}{l:Nat}{f:FuncId}{tmps:Array Value}{assign body:Code}{w:World}{R:Ending→World→Prop}(h:RoundIn Fence.wide m P l f tmps assign body w R):RoundIn (Fence.wide.inRound ll) m' P l f tmps assign body w R:=
 ⟨trivial,λc cs _=>h.2 c cs (by simp[Fence.room,Fence.wide])⟩
theorem aqO(Ba Bs N0 n N:Nat)(v:Value)(T:aT)(s j:Nat)(w:World)(hA:Bx Ba [v] w)(hS:Bx Bs [s] w)(hv:Shape.nod.list.list.reads (λb=>b<N0) w [v] T)(hj:j<T.length)(hjs:j+s+2=T.length)
  (hN0:N0≤w.heap.size) (hN:(qo T[j]).length≤N) (hbd:∀x∈qo T[j],-10000000≤x.2.1∧x.2.1≤10000000∧-10000000≤x.2.2∧x.2.2≤10000000) :
  su prog n 350 #[.pointer (some ⟨Ba,0,none⟩),.pointer (some ⟨Bs,0,none⟩)] Kt (λk=>k<N0∨k=Ba∨k=Bs) (λys=>ys=(qo T[j]).map sM) N w:=by
 intro l J Jx W hW hJ hJx hY hj0;have DN:=U (hA.next hW);have FE:=U (hS.next hW);have Ci:Hid (Shape.nod.list.list.reads (λb=>b<N0) W [v] T):=U (Shape.keep _ hv (Same.below hW));have KC:N0≤W.heap.size:=fK hN0 hW.size;clear hA hS hv hN0;have HJ:=U hJ;have yN:=U hJx;have HY:=U hY;have hj0:=U hj0;clear hJ hJx hY;have HL:aC Shape.nod.list W v T:=kK Ci.o;obtain⟨a,c,rfl,hc1,hc2⟩:=HL.shape;unfold maxLen at hc2;clear HL;have xD:=U hbd;clear hbd;have c0:W.cell? ⟨Ba,0,none⟩=some (.slice a T.length c):=DN.o.cell 0;have c1:W.cell? ⟨Bs,0,none⟩=some (.int .i64 s):=FE.o.cell 0;have l0:=DN.o.lt;have l1:=FE.o.lt;have w1:IntKind.i64.wrap ((T.length:Int)-2)=(T.length:Int)-2:=dE _ ae;have w2:IntKind.i64.wrap ((T.length:Int)-2-(s:Int))=(j:Int):=amh;refine zb func350 rfl trivial ?_ rfl;simp only[ntmps350,jb,dS,fU,Nat.reduceAdd,Nat.reduceSub,kv,kw,kC,kz,fE,gB];have hfn:∀k,Fence.wide.fn k:=λ_=>trivial;have hdp:¬(Fence.wide.depth.isSome=true):=kL;gi_wp2_with fail;refine(jH jJ (ag8 _ _ _)).mono ?_;rintro e w3 ⟨rfl,rfl⟩;gi_wp2_with fail;have XY:=((Bx.new (W:=W) (t:=405) (vs:=[.func (.yield l) #[] #[]]) rfl).alloc (.cells #[.slice a T.length c] 321)).alloc (.cells #[j] 3)
 have XA:=(Bx.new (W:=W.alloc (.cells #[.func (.yield l) #[] #[]] 405)) (B:=W.heap.size+1) (t:=321) (vs:=[.slice a T.length c]) aj).alloc (.cells #[j] 3);have XS:=Bx.new (W:=(W.alloc (.cells #[.func (.yield l) #[] #[]] 405)).alloc (.cells #[.slice a T.length c] 321)) (B:=W.heap.size+1+1) (t:=3) (vs:=[.int .i64 j]) aj;have hB4:BL W (((W.alloc (.cells #[.func (.yield l) #[] #[]] 405)).alloc (.cells #[.slice a T.length c] 321)).alloc (.cells #[j] 3)):=Bl.alloc (Bl.alloc (Bl.alloc (aB _ _) _) _) _;have hs4:(((W.alloc (.cells #[.func (.yield l) #[] #[]] 405)).alloc (.cells #[.slice a T.length c] 321)).alloc (.cells #[j] 3)).heap.size=W.heap.size+3:=aj;generalize (((W.alloc (.cells #[.func (.yield l) #[] #[]] 405)).alloc (.cells #[.slice a T.length c] 321)).alloc (.cells #[j] 3))=W4 at *;have SQ:=U (ag0 (W.heap.size+1) (W.heap.size+1+1) N0 (n-1) N _ T j W4 XA XS (Shape.keep _ Ci.o (Same.below hB4)) hj ae hN);clear XA XS c0 c1
 have yM:Hid (J (ry W.heap.size W4.heap.size (λ_=>False) W4) [] W4):=U (HJ.o _ _ _ _ _ hj0.o (aA.of_below hB4) (λk hk=>by
  obtain⟨h|h,h2⟩:=hk
  ·exact .inr ⟨h.1,h2⟩
  ·exact h.elim))
 refine E8 (gf:=346) (lb:=#[.pointer (some ⟨W.heap.size+1,0,none⟩),.pointer (some ⟨W.heap.size+1+1,0,none⟩)]) rfl (fo func346 aF rfl) SQ.o (λk hk=>ae) (λ_=>rfl)
  (λown pre W'=>J (ry W.heap.size W4.heap.size own W') (pre.map sM) W'∧Bx W.heap.size [.func (.yield l) #[] #[]] W') ?hI (λcd own pre W'=>cd=.ret∧Jx (ry W.heap.size W4.heap.size own W') (pre.map sM) W') ?hIx ?h0
  (λown pre x a1 W'=>∃bh:Nat,(Bx bh [x.1.1,x.1.2] W'∧Bx (bh+1) [x.2.1,x.2.2] W'∧W4.heap.size+2≤bh)∧(pre++[x] <+: qo T[j])∧(J (ry W.heap.size W4.heap.size own W') (pre.map sM) W'∧Bx W.heap.size [.func (.yield l) #[] #[]] W')∧a1={ tmps:=#[.func (.yield l) #[] #[],.pointer (some ⟨Ba,0,none⟩),.pointer (some ⟨Bs,0,none⟩),.pointer (some ⟨W.heap.size,0,none⟩),.pointer (some ⟨bh,0,none⟩),.pointer (some ⟨bh+1,0,none⟩),.pointer (some ⟨Ba,0,none⟩),.agg #[.slice a T.length c],.agg #[.slice a T.length c],.pointer (some ⟨Ba,0,none⟩),.pointer (some ⟨Ba,0,none⟩),.slice a T.length c,.int .i64 T.length,.int .i64 ((T.length:Int)-2),.int .i64 s,.int .i64 j,.func (.func 346) #[] #[.pointer (some ⟨W.heap.size+1,0,none⟩),.pointer (some ⟨W.heap.size+1+1,0,none⟩)],.agg #[.int .i64 x.1.1,.int .i64 x.1.2],.agg #[.int .i64 x.2.1,.int .i64 x.2.2],undef,undef,undef,undef,undef,undef,undef,undef,undef,undef,undef,undef,undef,undef,undef],defers:=[] }) ?hAx ?assign ?body ?done ?stop
 case hI=>
  intro own own' s A B hi ho hs ht hw;exact⟨sw HJ.o hi.1 ae ht hw,hi.2.turns ht (λk=>ays)⟩
 case hIx=>
  intro cd own own' s A B hi ho hs ht hw;exact⟨hi.1,sw yN.o hi.2 ae ht hw⟩
 case h0=>exact⟨yM.o,XY⟩
 case hAx=>
  rintro own pre x a1 A B ⟨bh,⟨h1,h2,h3⟩,h4,h5,h6⟩ ho ht hlt hsz;exact⟨bh,⟨h1.turns ht (λe=>ae),h2.turns ht (λe=>ae),h3⟩,h4,⟨sw HJ.o h5.1 ae (ht.mono λk h=>.inr (.inr h)) (λk h=>.inl h),h5.2.turns ht (λe=>ae)⟩,h6⟩
 case assign=>
  rintro ll own pre x W' hi ho hs hlt hpre _ _;obtain⟨_,rfl,hpre⟩:=hpre;have HP:=U hpre;clear hpre;have HI:=U hi;clear hi;unfold Kt;gi_wp2;have hbl:BL W' ((W'.alloc (.cells #[x.1.1,x.1.2] 360)).alloc (.cells #[x.2.1,x.2.2] 41)):=Bl.alloc (Bl.alloc (aB _ _) _) _;refine⟨fG.of_below hbl λk hk=>?_,W'.heap.size,⟨(Bx.new (vs:=[.int .i64 x.1.1,.int .i64 x.1.2]) rfl).alloc _,Bx.new (vs:=[.int .i64 x.2.1,.int .i64 x.2.2]) aj,hs⟩,HP.o,⟨sw HJ.o HI.o.1 ae (aA.of_below hbl) (λk h=>.inl h),HI.o.2.next hbl⟩,?_⟩
  ·rcases hk with(h|h|h)|h|h|h
   ·omega
   ·omega
   ·omega
   ·exact(ho k h).2
   ·omega
   ·omega
  ·first|trivial|rfl
 case body=>
  rintro ll own pre x a1 W' ⟨bh,⟨h1,h2,h3⟩,h4,⟨h5,h6⟩,rfl⟩ ho hs hlt hpre;clear hpre;have h7:=xD.o x (h4.subset aj);obtain⟨⟨x1,x2⟩,x3,x4⟩:=x;simp only at h1 h2 h7;have q0:=h1.cell 0;have q1:=h1.cell 1;have q2:=h2.cell 0;have q3:=h2.cell 1;have q4:=h6.cell 0;have q5:=h1.lt;have q6:=h2.lt;have q7:=h6.lt;simp only[aK,bB]at q0 q1 q2 q3 q4;have w3:IntKind.i64.wrap (-x4)=-x4:=dE _ ae;have w4:IntKind.i64.wrap (-x3)=-x3:=dE _ ae;obtain⟨fn,tmps,assign,body,hy,hR⟩:=HY.o _ _ (sM ((x1,x2),x3,x4)) W' h5 (by rw[fC];have:=h4.length_le;simp at this;omega) ⟨_,rfl,by have:=h4.map sM;rwa[iT]at this⟩ trivial;dsimp only[Kt,sM]at hy;have bI:=U h6;clear h1 h2 h6;gi_wp2_with fail;refine(acI hR).mono ?_
  have hkk:∀k,((k<N0∨k=W.heap.size+1∨k=W.heap.size+1+1)∨own k∨k=W4.heap.size∨k=W4.heap.size+1)→((k<N0∨k=Ba∨k=Bs)∨ry W.heap.size W4.heap.size own W' k):=by
   rintro k ((h|h|h)|h|h|h)
   ·exact .inl (.inl h)
   ·exact .inr ⟨.inl ⟨ae,ae⟩,ae⟩
   ·exact .inr ⟨.inl ⟨ae,ae⟩,ae⟩
   ·exact .inr ⟨.inr h,(ho k h).2⟩
   ·exact .inr ⟨.inl ⟨ae,ae⟩,ae⟩
   ·exact .inr ⟨.inl ⟨ae,ae⟩,ae⟩
  have HKK:=U hkk;clear hkk;rintro e W5 (⟨rfl,hJ3,hs3,hk3⟩|⟨rfl,hJ3,hs3,hk3⟩)
  ·have DZ:=U (And.intro (And.intro hs3 (λk hk=>hk3 k (HKK.o k hk))) (And.intro hJ3 hk3));clear hJ3 hk3 hR hy;gi_wp2_with fail;obtain⟨⟨g1,g2⟩,g3,g4⟩:=DZ.o;exact⟨⟨g1,g2⟩,ayX,bI.o.block (g4 _ (.inr ⟨.inl ⟨ae,ae⟩,ae⟩)) g1⟩
  ·have DZ:=U (And.intro (And.intro hs3 (λk hk=>hk3 k (HKK.o k hk))) (And.intro hJ3 hk3));clear hJ3 hk3 hR hy;gi_wp2_with fail;obtain⟨⟨g1,g2⟩,g3,g4⟩:=DZ.o;exact⟨⟨g1,g2⟩,rfl,ayY⟩
 case done=>
  rintro own ls W' rfl ⟨hj,hx⟩ ho hs hK;refine⟨aj,.inl ⟨_,_,rfl,sO hK,?_⟩⟩;exact⟨_,Jf rfl _ _ _,⟨_,rfl⟩,_,_,.inl ⟨rfl,sw HJ.o hj ae ((aA.putObj _ _ _).mono λk h=>.inr (.inl h)) (λk h=>.inl h)⟩⟩
 case stop=>
  rintro cd own xs W' ⟨rfl,hj⟩ ho hs hK;have O0:=U hj;clear hj;gi_wp2_with fail;refine⟨aj,.inl ⟨_,_,rfl,sO hK,?_⟩⟩;exact⟨_,Jf rfl _ _ _,⟨_,rfl⟩,_,_,.inr (sw yN.o O0.o ae ((aA.putObj _ _ _).mono λk h=>.inr (.inl h)) (λk h=>.inl h))⟩
def nk(gaps:List Sp)(ticks c a:Int):List jr:=
 if c=-1 then [(-1,0),(0,0)]else if c=gaps.length then [(c,1)]
 else(if a+1<gX gaps ticks c then [(c,a+1)]else [])++(if(gaps.getD c.toNat (0,0)).1≤a+1∧a+1≤(gaps.getD c.toNat (0,0)).2 then [(c+1,0)]else [])
def Ir(x:jr):Array Value:=#[.agg #[.int .i64 x.1,.int .i64 x.2,.int .i64 0]]
structure Ic(Bc Bs C N0:Nat)(cs:List Value)(vg:Value)(gaps:List Sp)(ticks c a o:Int)(W:World):Prop where
 bc:Bx Bc [.pointer (some ⟨C,0,none⟩)] W
 bs:Bx Bs [c,a,o] W
 ch:Bx C cs W
 gp:Shape.span.list.reads (λb=>b<N0) W [vg] gaps
theorem Ic.keep{Bc Bs C N0:Nat}{vg:Value}{gaps:List Sp}{ticks c a o:Int}(h:Ic Bc Bs C N0 cs vg gaps ticks c a o W)(hC:C<N0)(hs:W.heap.size≤W'.heap.size)(hk:∀q,(q<N0∨q=Bc∨q=Bs)→W'.heap[q]?=W.heap[q]?):Ic Bc Bs C N0 cs vg gaps ticks c a o W':=
 ⟨h.bc.block (hk _ (.inr (.inl rfl))) hs,h.bs.block (hk _ (.inr (.inr rfl))) hs,h.ch.block (hk _ (.inl hC)) hs,Shape.keep _ h.gp ⟨hs,λb hb _=>hk b (.inl hb)⟩⟩
theorem Ic.below{Bc Bs C N0:Nat}{vg:Value}{gaps:List Sp}{ticks c a o:Int}(h:Ic Bc Bs C N0 cs vg gaps ticks c a o W)(hb:BL W W'):Ic Bc Bs C N0 cs vg gaps ticks c a o W':=
 ⟨h.bc.next hb,h.bs.next hb,h.ch.next hb,Shape.keep _ h.gp (Same.below hb)⟩
theorem ahO{vg:Value}{gaps:List Sp}{ticks c:Int}{w:World}{d:Nat}{os:Array Obj}(hX:Bx B vs w)(h1:vs[22]?=some vg)(h2:vs[20]?=some (.int .i64 ticks))(hg:aC Shape.span w vg gaps)(hc:-1≤c∧c≤gaps.length)(hr:Hid (gX gaps ticks c=r)):
  Calls prog 171 #[.pointer (some ⟨B,0,none⟩),c] (Sort.grow (redrawn w d) os) λe w''=>e=.returned (.int .i64 r)∧∃p:Regrown,w''=Sort.grow (redrawn w p.d) p.os:=by
 have:=uZ (aaq B vs vg gaps ticks c _ (hX.next (Ih w d os)) h1 h2 (hg.below (Ih w d os)) hc);rw[hr.o]at this;exact this
theorem Xj{x n:Int}{b:Bool}{w:World}{d:Nat}{os:Array Obj}(hb:Hid ((decide (x≤n)&&decide (n≤y))=b)):
  Calls prog 85 #[.agg #[x,y],n] (Sort.grow (redrawn w d) os) λe w''=>e=.returned (.bool b)∧∃p:Regrown,w''=Sort.grow (redrawn w p.d) p.os:=by
 rw[←hb.o];exact uZ (win x y n _)
theorem aBu(Bc Bs C N0 n:Nat)(cs:List Value)(vg:Value)(gaps:List Sp)(ticks c a o:Int)(w:World)(hF:Ic Bc Bs C N0 cs vg gaps ticks c a o w)(h22:cs[22]?=some vg)(h20:cs[20]?=some (.int .i64 ticks))(hCN:C<N0)(hN0:N0≤w.heap.size)
  (hc:-1≤c∧c≤gaps.length) (ha:0≤a∧a≤1000000) (hl:gaps.length≤1000) :
  vI prog n 281 #[.pointer (some ⟨Bc,0,none⟩),.pointer (some ⟨Bs,0,none⟩)] Ir (λk=>k<N0∨k=Bc∨k=Bs) (λys=>ys=nk gaps ticks c a) 2 w (λp _=>p∈nk gaps ticks c a):=by
 intro l J W hW hJ hY hj0;have HF:=U (hF.below hW);have KC:N0≤W.heap.size:=fK hN0 hW.size;clear hF hN0;have HJ:=U hJ;have HY:=U hY;have hj0:=U hj0;clear hJ hY;have HL:aC Shape.span W vg gaps:=kK HF.o.gp;obtain⟨ag,cg,rfl,hg1,hg2⟩:=HL.shape;unfold maxLen at hg2;have p0:W.cell? ⟨Bc,0,none⟩=some (.pointer (some ⟨C,0,none⟩)):=HF.o.bc.cell 0;have s0:W.cell? ⟨Bs,0,none⟩=some (.int .i64 c):=HF.o.bs.cell 0;have s1:W.cell? ⟨Bs,1,none⟩=some (.int .i64 a):=HF.o.bs.cell 1;have CK:W.cell? ⟨C,22,none⟩=some (.slice ag gaps.length cg):=(HF.o.ch.cell 22).trans h22;have lc:=HF.o.bc.lt;have ls:=HF.o.bs.lt;have lC:=HF.o.ch.lt;have L8:=U HL;clear HL;have HKW:Hid (∀q,(q<N0∨q=Bc∨q=Bs)→q<W.heap.size):=U (λq h=>by rcases h with h|h|h<;>omega);obtain⟨hc1,hc2⟩:=hc;obtain⟨ha1,ha2⟩:=ha;by_cases e1:c=-1
 ·subst e1;have mM:Hid (nk gaps ticks (-1) a=[(-1,0),(0,0)]):=U (aG rfl);obtain⟨fn,tmps,assign,body,hy,hR⟩:=HY.o (λ_=>False) [] (-1,0) W hj0.o aj (by rw[mM.o];simp);dsimp only[Ir]at hy;refine xV func281 rfl trivial ?_ rfl;simp only[ntmps281,jb,dS,fU,Nat.reduceAdd,Nat.reduceSub,kv,kw,kC,kz,fE,gB];have hfn:∀k,Fence.wide.fn k:=(λ_=>trivial);have hdp:¬(Fence.wide.depth.isSome=true):=kL;gi_wp2_with fail;refine hR.mono ?_;rintro e W3 ⟨rfl,hJ3,hs3,hk3⟩;obtain⟨fn2,aE4,aCQ,aCS,hy2,hR2⟩:=HY.o (λ_=>False) [(-1,0)] (0,0) W3 hJ3 aj (by rw[mM.o];simp);dsimp only[Ir]at hy2;clear hR hy hJ3 hk3 p0 s0 s1 CK;gi_wp2_with fail;refine hR2.mono ?_;rintro e W4 ⟨rfl,hJ4,hs4,hk4⟩;have yM:=U hJ4;clear hR2 hy2 hJ4 hk4;gi_wp2;go_end0;exact⟨⟨_,rfl⟩,λ_=>False,_,rfl,by rw[mM.o];exact yM.o⟩
 by_cases e2:c=gaps.length
 ·subst e2;have mM:Hid (nk gaps ticks (gaps.length:Int) a=[((gaps.length:Int),1)]):=U (by unfold nk;rw[if_neg e1,if_pos rfl]);have t1:(((gaps.length:Nat):Int)==-1)=false:=by simpa using e1
  obtain⟨fn,tmps,assign,body,hy,hR⟩:=HY.o (λ_=>False) [] ((gaps.length:Int),1) W hj0.o aj (by rw[mM.o];simp);dsimp only[Ir]at hy;refine xV func281 rfl trivial ?_ rfl;simp only[ntmps281,jb,dS,fU,Nat.reduceAdd,Nat.reduceSub,kv,kw,kC,kz,fE,gB];have hfn:∀k,Fence.wide.fn k:=(λ_=>trivial);have hdp:¬(Fence.wide.depth.isSome=true):=kL;gi_wp2_with fail;refine hR.mono ?_;rintro e W3 ⟨rfl,hJ3,hs3,hk3⟩;have gK:=U hJ3;clear hR hy hJ3 hk3 p0 s0 s1 CK;gi_wp2;go_end0;exact⟨⟨_,rfl⟩,λ_=>False,_,rfl,by rw[mM.o];exact gK.o⟩
 ·have t1:(c==-1)=false:=by simpa using e1
  have t2:(c==((gaps.length:Nat):Int))=false:=by simpa using e2
  obtain⟨r,hr⟩:=nm (gX gaps ticks c);obtain⟨kc,rfl⟩:∃kc:Nat,c=(kc:Int):=⟨c.toNat,ae⟩;have w1:IntKind.i64.wrap (a+1)=a+1:=dE _ ae;by_cases e3:a+1<r
  ·have t3:decide (a+1<r)=true:=by simpa using e3
   refine xV func281 rfl trivial ?_ rfl;simp only[ntmps281,jb,dS,fU,Nat.reduceAdd,Nat.reduceSub,kv,kw,kC,kz,fE,gB];have hfn:∀k,Fence.wide.fn k:=(λ_=>trivial);have hdp:¬(Fence.wide.depth.isSome=true):=kL;gi_wp2;refine Xp [16] [16] 1 [] [(1,[0,1,2,3,4,5,6,7,8,9,10,11,12,13,14,15],16)] [17,18] [] [(1,[_,_,_,_,_,_,_,_,_,_,_,_,_,_,_,_],16,_)] [_,_] ?_;refine aH (Xu ?_)
   (repeat(go_big_quiet_step (first|exact ahO HF.o.ch h22 h20 L8.o ⟨ae,ae⟩ hr|fail)));refine aH ?_
   intro w2 hb2;obtain⟨fn,tmps,assign,body,hy,hR⟩:=HY.o (λ_=>False) [] ((kc:Int),a+1) w2 (HJ.o _ _ _ _ _ hj0.o (aA.of_below hb2) (λ_ h=>.inl h)) aj (by unfold nk;rw[if_neg e1,if_neg e2,hr.o,if_pos e3];simp);dsimp only[Ir]at hy;gi_wp2_with fail;refine hR.mono ?_;rintro e W3 ⟨rfl,hJ3,hs3,hk3⟩;have tJ:Hid (∀q,(q<N0∨q=Bc∨q=Bs)→W3.heap[q]?=W.heap[q]?):=U (λq hq=>(hk3 q (.inl hq)).trans (hb2.block q (HKW.o q hq)));have gK:=U hJ3;have hz3:W.heap.size≤W3.heap.size:=fK hb2.size hs3;clear hR hy hJ3 hk3 hs3 hb2;gi_wp2;refine bS _ rfl (SV ?_)
   (repeat(go_big_quiet_step (fail)));refine aH ?_
   intro nq;have xH:=U (HJ.o _ _ _ _ (W3.drewN nq) gK.o (aA.drewN _ _ nq) (λ_ h=>.inl h));have qU:=U (HF.o.keep (W':=W3.drewN nq) hCN hz3 tJ.o);have vQ:W.heap.size≤(W3.drewN nq).heap.size:=hz3;generalize W3.drewN nq=W5 at *;clear gK tJ hz3;gi_wp2_with fail;have xH:Hid (J (λ_=>False) ([((kc:Int),a+1)]:List jr) W5):=xH;have q0:W5.cell? ⟨Bc,0,none⟩=some (.pointer (some ⟨C,0,none⟩)):=qU.o.bc.cell 0;have q1:W5.cell? ⟨Bs,0,none⟩=some (.int .i64 (kc:Int)):=qU.o.bs.cell 0;have q2:W5.cell? ⟨Bs,1,none⟩=some (.int .i64 a):=qU.o.bs.cell 1;have q3:W5.cell? ⟨C,22,none⟩=some (.slice ag gaps.length cg):=(qU.o.ch.cell 22).trans h22;have lc5:=qU.o.bc.lt;have ls5:=qU.o.bs.lt;have lC5:=qU.o.ch.lt;obtain⟨qg,og,rfl,g1,g2⟩:=(kK qU.o.gp).span_at (k:=kc) ae;have lg5:=fe _ _ g1;dsimp only at lg5;have Ym:Hid (gaps.getD (kc:Int).toNat (0,0)=gaps[kc]' ae):=U azR;have i1:(0:Int)≤(kc:Int):=ae;have i2:(kc:Int)<gaps.length:=ae;have w2':IntKind.i64.wrap ((kc:Int)+1)=(kc:Int)+1:=dE _ ae
   have mM:Hid (nk gaps ticks (kc:Int) a=[((kc:Int),a+1)]++(if(gaps[kc]' ae).1≤a+1∧a+1≤(gaps[kc]' ae).2 then [((kc:Int)+1,0)]else [])):=U (by
    unfold nk
    rw[aD e1,aD e2,hr.o,Ym.o,aG ae])
   generalize gaps[kc]' ae=gg at *;obtain⟨gl,gh⟩:=gg;simp only at g1 g2 mM;clear p0 s0 s1 CK;by_cases e4:gl≤a+1∧a+1≤gh
   ·have t4:(decide (gl≤a+1)&&decide (a+1≤gh))=true:=bC;have xN:Hid (nk gaps ticks (kc:Int) a=[((kc:Int),a+1)]++[((kc:Int)+1,0)]):=U (by rw[mM.o,aG e4]);gi_wp2;refine rU [] [] 1 [] [] [0,1,2,3,4,5,6,7,8,9,10,11] [] [] [_,_,_,_,_,_,_,_,_,_,_,_] ?_;refine aH (Xv ?_)
    (repeat(go_big_quiet_step (first|exact Xj (U t4)|fail)));refine aH ?_
    intro w6 hb6;refine uO ?_;obtain⟨fn,tmps,assign,body,hy,hR⟩:=HY.o (λ_=>False) [((kc:Int),a+1)] ((kc:Int)+1,0) w6 (HJ.o _ _ _ _ _ xH.o (aA.of_below hb6) (λ_ h=>.inl h)) aj (by rw[xN.o];simp);dsimp only[Ir]at hy;have r0:=(hb6.cell (p:=⟨Bs,0,none⟩) ls5).trans q1;have rl:Bs<w6.heap.size:=ajs;gi_wp2_with fail;refine hR.mono ?_;rintro e W7 ⟨rfl,hJ7,hs7,hk7⟩;have Yp:=U hJ7;clear hR hy hJ7 hk7;gi_wp2;go_end0;exact⟨⟨_,rfl⟩,λ_=>False,_,rfl,by rw[xN.o];exact Yp.o⟩
   ·have t4:(decide (gl≤a+1)&&decide (a+1≤gh))=false:=by
     cases h:(decide (gl≤a+1)&&decide (a+1≤gh))
     ·rfl
     ·exact(e4 wu).elim
    have xN:Hid (nk gaps ticks (kc:Int) a=[((kc:Int),a+1)]):=U (by rw[mM.o,aD e4,ow]);gi_wp2;refine rU [] [] 1 [] [] [0,1,2,3,4,5,6,7,8,9,10,11] [] [] [_,_,_,_,_,_,_,_,_,_,_,_] ?_;refine aH (Xv ?_)
    (repeat(go_big_quiet_step (first|exact Xj (U t4)|fail)));refine aH ?_
    intro w6 hb6;refine uO ?_;have G8:=U (HJ.o _ _ _ _ _ xH.o (aA.of_below hb6) (λ_ h=>.inl h));gi_wp2;go_end0;exact⟨⟨_,rfl⟩,λ_=>False,_,rfl,by rw[xN.o];exact G8.o⟩
  ·have t3:decide (a+1<r)=false:=by simpa using e3
   refine xV func281 rfl trivial ?_ rfl;simp only[ntmps281,jb,dS,fU,Nat.reduceAdd,Nat.reduceSub,kv,kw,kC,kz,fE,gB];have hfn:∀k,Fence.wide.fn k:=(λ_=>trivial);have hdp:¬(Fence.wide.depth.isSome=true):=kL;gi_wp2;refine Xp [16] [16] 1 [] [(1,[0,1,2,3,4,5,6,7,8,9,10,11,12,13,14,15],16)] [17,18] [] [(1,[_,_,_,_,_,_,_,_,_,_,_,_,_,_,_,_],16,_)] [_,_] ?_;refine aH (Xu ?_)
   (repeat(go_big_quiet_step (first|exact ahO HF.o.ch h22 h20 L8.o ⟨ae,ae⟩ hr|fail)));refine aH ?_
   intro w2 hb2;have gK:=U (HJ.o _ _ _ _ w2 hj0.o (aA.of_below hb2) (λ_ h=>.inl h));gi_wp2;refine bS _ rfl (SV ?_)
   (repeat(go_big_quiet_step (fail)));refine aH ?_
   intro nq;have xH:=U (HJ.o _ _ _ _ (w2.drewN nq) gK.o (aA.drewN _ _ nq) (λ_ h=>.inl h));have qU:=U (HF.o.below (Bl.drewN hb2 nq));have vQ:W.heap.size≤(w2.drewN nq).heap.size:=hb2.size;generalize w2.drewN nq=W5 at *;clear gK hb2;gi_wp2_with fail;have xH:Hid (J (λ_=>False) ([]:List jr) W5):=xH;have q0:W5.cell? ⟨Bc,0,none⟩=some (.pointer (some ⟨C,0,none⟩)):=qU.o.bc.cell 0;have q1:W5.cell? ⟨Bs,0,none⟩=some (.int .i64 (kc:Int)):=qU.o.bs.cell 0;have q2:W5.cell? ⟨Bs,1,none⟩=some (.int .i64 a):=qU.o.bs.cell 1;have q3:W5.cell? ⟨C,22,none⟩=some (.slice ag gaps.length cg):=(qU.o.ch.cell 22).trans h22;have lc5:=qU.o.bc.lt;have ls5:=qU.o.bs.lt;have lC5:=qU.o.ch.lt;obtain⟨qg,og,rfl,g1,g2⟩:=(kK qU.o.gp).span_at (k:=kc) ae;have lg5:=fe _ _ g1;dsimp only at lg5;have Ym:Hid (gaps.getD (kc:Int).toNat (0,0)=gaps[kc]' ae):=U azR;have i1:(0:Int)≤(kc:Int):=ae;have i2:(kc:Int)<gaps.length:=ae;have w2':IntKind.i64.wrap ((kc:Int)+1)=(kc:Int)+1:=dE _ ae
   have mM:Hid (nk gaps ticks (kc:Int) a=[]++(if(gaps[kc]' ae).1≤a+1∧a+1≤(gaps[kc]' ae).2 then [((kc:Int)+1,0)]else [])):=U (by
    unfold nk
    rw[aD e1,aD e2,hr.o,Ym.o,aD ae])
   generalize gaps[kc]' ae=gg at *;obtain⟨gl,gh⟩:=gg;simp only at g1 g2 mM;clear p0 s0 s1 CK;by_cases e4:gl≤a+1∧a+1≤gh
   ·have t4:(decide (gl≤a+1)&&decide (a+1≤gh))=true:=bC;have xN:Hid (nk gaps ticks (kc:Int) a=[]++[((kc:Int)+1,0)]):=U (by rw[mM.o,aG e4]);gi_wp2;refine rU [] [] 1 [] [] [0,1,2,3,4,5,6,7,8,9,10,11] [] [] [_,_,_,_,_,_,_,_,_,_,_,_] ?_;refine aH (Xv ?_)
    (repeat(go_big_quiet_step (first|exact Xj (U t4)|fail)));refine aH ?_
    intro w6 hb6;refine uO ?_;obtain⟨fn,tmps,assign,body,hy,hR⟩:=HY.o (λ_=>False) [] ((kc:Int)+1,0) w6 (HJ.o _ _ _ _ _ xH.o (aA.of_below hb6) (λ_ h=>.inl h)) aj (by rw[xN.o];simp);dsimp only[Ir]at hy;have r0:=(hb6.cell (p:=⟨Bs,0,none⟩) ls5).trans q1;have rl:Bs<w6.heap.size:=ajs;gi_wp2_with fail;refine hR.mono ?_;rintro e W7 ⟨rfl,hJ7,hs7,hk7⟩;have Yp:=U hJ7;clear hR hy hJ7 hk7;gi_wp2;go_end0;exact⟨⟨_,rfl⟩,λ_=>False,_,rfl,by rw[xN.o];exact Yp.o⟩
   ·have t4:(decide (gl≤a+1)&&decide (a+1≤gh))=false:=by
     cases h:(decide (gl≤a+1)&&decide (a+1≤gh))
     ·rfl
     ·exact(e4 wu).elim
    have xN:Hid (nk gaps ticks (kc:Int) a=[]):=U (by rw[mM.o,aD e4,ow]);gi_wp2;refine rU [] [] 1 [] [] [0,1,2,3,4,5,6,7,8,9,10,11] [] [] [_,_,_,_,_,_,_,_,_,_,_,_] ?_;refine aH (Xv ?_)
    (repeat(go_big_quiet_step (first|exact Xj (U t4)|fail)));refine aH ?_
    intro w6 hb6;refine uO ?_;have G8:=U (HJ.o _ _ _ _ _ xH.o (aA.of_below hb6) (λ_ h=>.inl h));gi_wp2;go_end0;exact⟨⟨_,rfl⟩,λ_=>False,_,rfl,by rw[xN.o];exact G8.o⟩
theorem aso(C N0:Nat)(cs:List Value)(vg:Value)(gaps:List Sp)(ticks c a o:Int)(w:World)(hX:Bx C cs w)(hg:Shape.span.list.reads (λb=>b<N0) w [vg] gaps):
  Calls prog 238 #[.pointer (some ⟨C,0,none⟩),.agg #[c,a,o]] w λe w'=>e=.returned (.func (.func 281) #[] #[.pointer (some ⟨w.heap.size,0,none⟩),.pointer (some ⟨w.heap.size+1,0,none⟩)])∧Ic w.heap.size (w.heap.size+1) C N0 cs vg gaps ticks c a o w'∧BL w w':=by
 have HX:=U hX;have HG:=U hg;clear hX hg;go_in;go_wp2;go_ret;have hb:BL w ((w.alloc (.cells #[.pointer (some ⟨C,0,none⟩)] 88)).alloc (.cells #[c,a,o] 195)):=Bl.alloc (Bl.alloc (aB _ _) _) _;exact⟨rfl,⟨(Bx.new rfl).alloc _,Bx.new aj,HX.o.next hb,Shape.below HG.o hb⟩,hb⟩
end
theorem mem_places{gaps:List Sp}{ticks:Int}{p:jr}:p∈eY gaps ticks↔(-1≤p.1∧p.1≤gaps.length)∧0≤p.2∧p.2<gX gaps ticks p.1:=by
 obtain⟨c,a⟩:=p;rw[←acx];simp only[zD,iB,dz,fD,yX];constructor
 ·rintro⟨j,hj,k,hk,rfl,rfl⟩;omega
 ·rintro⟨⟨h1,h2⟩,h3,h4⟩;refine⟨(c+1).toNat,ae,a.toNat,?_,ae,ae⟩;rw[show(((c+1).toNat:Nat):Int)-1=c from ae];omega
def Ee(p q:jr):Prop:=p.1<q.1∨(p.1=q.1∧p.2<q.2)
theorem alG(gaps:List Sp)(ticks:Int):(eY gaps ticks).Pairwise Ee:=by
 rw[←acx];unfold zD;rw[List.pairwise_flatMap];refine⟨λj _=>?_,?_⟩
 ·rw[MC];exact agp.imp λh=>.inr ⟨rfl,ic⟩
 ·refine agp.imp λh p hp q hq=>?_;obtain⟨x,_,rfl⟩:=dz.1 hp;obtain⟨y,_,rfl⟩:=dz.1 hq;exact .inl ic
theorem amW:∀ {l m:List jr},l.Pairwise Ee→m.Pairwise Ee→(∀p,p∈l↔p∈m)→l=m
 |[],[],_,_,_=>rfl
 |[],q::m,_,_,h=>by have:=(h q).2 aj;cases this
 |p::l,[],_,_,h=>by have:=(h p).1 aj;cases this
 |p::l,q::m,hl,hm,h=>by
  obtain⟨l1,l2⟩:=FX.1 hl;obtain⟨m1,m2⟩:=FX.1 hm
  have e:p=q:=by
   rcases mP.1 ((h p).1 aj)with e|e
   ·exact e
   ·rcases mP.1 ((h q).2 aj)with e2|e2
    ·exact e2.symm
    ·have h1:=m1 p e;have h2:=l1 q e2;unfold Ee at h1 h2;omega
  subst e;have irr:∀ {r:List jr},(∀t∈r,Ee p t)→p∉r:=λh k=>by have:=h p k;unfold Ee at this;omega
  rw[amW l2 m2 λr=>?_];constructor
  ·intro k;rcases mP.1 ((h r).1 (Cv _ k))with e|e
   ·subst e;exact absurd k (irr l1)
   ·exact e
  ·intro k;rcases mP.1 ((h r).2 (Cv _ k))with e|e
   ·subst e;exact absurd k (irr m1)
   ·exact e
theorem ax4(gaps:List Sp)(ticks:Int):(eY gaps ticks).Nodup:=
 (alG gaps ticks).imp λh e=>by subst e;unfold Ee at h;omega
def aaG(gaps:List Sp)(x y:jr):Bool:=adE gaps.length x y || acu gaps gaps.length x y
theorem anA{gaps:List Sp}{ticks c a:Int}(hg:∀g∈gaps,1≤g.2)(ht:1≤ticks)(hc:-1≤c∧c≤gaps.length)(ha:0≤a):(eY gaps ticks).filter (aaG gaps (c,a))=nk gaps ticks c a:=by
 have hst:∀k:Int,0≤k→k≤gaps.length→0<gX gaps ticks k:=by
  intro k h1 h2;unfold gX;rw[aD ae];split
  ·omega
  ·have hk:k.toNat<gaps.length:=ae;have:=hg _ (eu hk);have e:gaps.getD k.toNat (0,0)=gaps[k.toNat]:=by simp[bN,hk]
   rw[e];omega
 have hs1:gX gaps ticks (-1)=1:=by simp[gX]
 have hs2:gX gaps ticks gaps.length=2:=by unfold gX;rw[if_neg ae,if_pos rfl]
 refine amW ((alG _ _).filter _) ?_ λp=>?_
 ·unfold nk;split
  ·simp[Ee]
  ·split
   ·simp
   ·split<;>split<;>first|(simp[Ee];done)|(simp[Ee];omega)
 ·rw[r9,mem_places];obtain⟨d,b⟩:=p;unfold aaG adE acu nk;simp only[OB,bW,dG];by_cases e1:c=-1
  ·subst e1;rw[aG rfl];simp only[mP,yX,Ec,Bp];constructor
   ·rintro⟨⟨⟨h1,h2⟩,h3,h4⟩,h5|h5⟩
    ·obtain rfl:d=-1:=h5.1;rw[hs1]at h4;omega
    ·omega
   ·rintro(⟨rfl,rfl⟩|⟨rfl,rfl⟩)
    ·refine⟨⟨⟨ae,ae⟩,ae,by rw[hs1];omega⟩,?_⟩;simp
    ·have:=hst 0 ae ae;refine⟨⟨⟨ae,ae⟩,ae,this⟩,?_⟩;simp
  ·rw[aD e1];by_cases e2:c=gaps.length
   ·rw[aG e2];simp only[mP,yX,Ec,Bp];constructor
    ·rintro⟨⟨⟨h1,h2⟩,h3,h4⟩,h5|h5⟩<;>omega
    ·rintro⟨rfl,rfl⟩;rw[e2,hs2];omega
   ·rw[aD e2,oH];have h0:=hst (c+1) ae ae;constructor
    ·rintro⟨⟨⟨h1,h2⟩,h3,h4⟩,h5|h5⟩
     ·obtain rfl:d=c:=h5.1;have:b=a+1:=ae;subst this;left;rw[aG h4];simp
     ·right;have:d=c+1∧b=0:=h5.1;obtain⟨rfl,rfl⟩:=this;rw[aG ae];simp
    ·rintro(h|h)
     ·split at h
      ·simp at h;obtain⟨rfl,rfl⟩:=h;omega
      ·simp at h
     ·split at h
      ·simp at h;obtain⟨rfl,rfl⟩:=h;omega
      ·simp at h
theorem avu{l:List jr}(h:l.Nodup)(hi:i<l.length):l.idxOf l[i]=i:=by
 exact h.idxOf_getElem i hi
theorem as8{l:List jr}(h:l.Nodup)(P:jr→Bool)(g:Nat→List β):
  ((List.range l.length).flatMap λi=>if P (l.getD i (0,0))=true then g i else [])=(l.filter P).flatMap λp=>g (l.idxOf p):=by
 have e:∀m,m≤l.length→((List.range m).flatMap λi=>if P (l.getD i (0,0))=true then g i else [])=((l.take m).filter P).flatMap λp=>g (l.idxOf p):=by
  intro m
  induction m with
  |zero=>intro _;simp
  |succ m ih=>
   intro hm;rw[jq,mO,ih ae,jF ae,wS,mO]
   congr 1
   have e1:l.getD m (0,0)=l[m]:=by simp[bN,show m<l.length from ae]
   simp only[jN,J5,ow,e1];by_cases hp:P l[m]=true
   ·simp[hp,avu h (show m<l.length from ae)]
   ·simp[hp]
 have:=e l.length (aV _)
 rwa[jc]at this
def tu(gaps:List Sp)(ticks b:Int)(mv:List lG)(p:jr):List lG:=mv.map λm=>((((eY gaps ticks).idxOf p:Nat):Int)*(2*b+1)+m.1,m.2)
theorem ahY{gaps:List Sp}{ticks c a:Int}(b:Int)(mv:List lG)(hg:∀g∈gaps,1≤g.2)(ht:1≤ticks)(hc:-1≤c∧c≤gaps.length)(ha:0≤a):
  CR gaps b mv (eY gaps ticks) (c,a)=(nk gaps ticks c a).flatMap (tu gaps ticks b mv):=by
 rw[←anA hg ht hc ha];exact as8 (ax4 gaps ticks) (aaG gaps (c,a)) λi=>mv.map λm=>((i:Int)*(2*b+1)+m.1,m.2)
theorem am4{b:Int}:∀ {l:List jr} {i j:Nat} (hi:i<l.length),j<(2*b+1).toNat→(o9 l b)[i*(2*b+1).toNat+j]?=some (l[i].1,l[i].2,(j:Int)-b)
 |[],_,_,h,_=>by simp at h
 |x::l,i,j,hi,hj=>by
  have e:o9 (x::l) b=((K4 b).map λj=>(x.1,x.2,j))++o9 l b:=by simp[o9]
  have el:((K4 b).map λj=>(x.1,x.2,j)).length=(2*b+1).toNat:=by rw[fC,als]
  rw[e]
  cases i with
  |zero=>
   rw[PU (by rw[el];omega)];simp[K4,hj]
  |succ i=>
   rw[PV (by rw[el,Aw];omega),el];have:=am4 (b:=b) (l:=l) (i:=i) (j:=j) Oe hj;rw[show(i+1)*(2*b+1).toNat+j-(2*b+1).toNat=i*(2*b+1).toNat+j by rw[Aw];omega,this];simp
theorem aBt{gaps:List Sp}{ticks c a:Int}(hg:∀g∈gaps,1≤g.2)(ht:1≤ticks)(hc:-1≤c∧c≤gaps.length)(ha:0≤a){p:jr}(hp:p∈nk gaps ticks c a):p∈eY gaps ticks:=by
 rw[←anA hg ht hc ha]at hp;exact(r9.1 hp).1
theorem aAf{gaps:List Sp}{ticks:Int}(hb:0≤b){p:jr}(hp:p∈eY gaps ticks){m:Int}(hm:0≤m∧m≤2*b):
  ∃k,∃h:k<(o9 (eY gaps ticks) b).length,(o9 (eY gaps ticks) b)[k]=(p.1,p.2,m-b)∧(k:Int)=(((eY gaps ticks).idxOf p:Nat):Int)*(2*b+1)+m:=by
 have hi:=List.idxOf_lt_length_of_mem hp;have h:=am4 (b:=b) hi (j:=m.toNat) ae;rw[List.getElem_idxOf hi]at h;obtain⟨h1,h2⟩:=gN.1 h;refine⟨_,h1,?_,?_⟩
 ·rw[h2,Zk hm.1]
 ·rw[Int.natCast_add,Zj,Zk hm.1,Zk ae]
theorem axh(hb:0≤f.sheet.band∧f.sheet.band≤8)(o:Int):(oP f o).length≤17∧∀m∈oP f o,0≤m.1∧m.1≤2*f.sheet.band:=by
 unfold oP KX;split
 ·split
  ·refine⟨aue,λm hm=>?_⟩;unfold Gs dR at hm;obtain⟨i,hi,rfl⟩:=dz.1 hm;have h1:=fD.1 (r9.1 hi).1;dsimp only;omega
  ·simp
 ·simp
section
attribute [local go_sem] Qv
theorem aAT(v:Value)(T:aT)(g:Nat)(lb:Array Value)(R:Value→World→Prop)(w:World)(hv:aC Shape.nod.list w v T)(h:zM T=0)(eg:Enters prog g)
  (hg:∀W,BL w W→Calls prog g (#[.agg #[v]]++lb) W λe w'=>∃u,e=.returned u∧R u w'∧BL W w') :
  Calls prog 117 #[.agg #[v],.func (.func g) #[] lb] w λe w'=>∃u,e=.returned (.tuple #[u,.int .i64 0])∧R u w'∧BL w w':=by
 have HC:=U (λW (hb:BL w W)=>ani v T W (hv.below hb));rw[h]at HC;clear h;have HG:=U hg;clear hg;have he':∀(args:Array Value) (w:World),(callFunc g args).run prog w=.ok (.enter g args) w:=eg;clear eg;have HS:=U hv.shape;clear hv;obtain⟨a,c,rfl,_,_⟩:=HS.o;clear HS;go_in;go_wp2_with fail;refine(HC.o _ (Bl.alloc (aB _ _) _)).mono ?_;rintro e w1 ⟨rfl,hb1⟩;have XB:=(Bx.new (W:=w) (t:=139) (vs:=[.slice a T.length c]) rfl).next hb1;have r0:=XB.cell 0;have rl:=XB.lt;simp only[aK]at r0;have hb2:=Bl.call (Bl.alloc (aB _ _) (.cells #[.slice a T.length c] 139)) hb1;clear XB;go_wp2_with fail;refine(HG.o _ hb2).mono ?_;rintro e w2 ⟨u,rfl,hR,hb3⟩;have HR:=U hR;clear hR;go_wp2;refine kE (Ws rfl _ _ _) rfl ?_;exact⟨u,rfl,HR.o,Bl.call hb2 hb3⟩
end
def iM(cur:List (List Sp))(ps:List Hop)(n:Nat):List Sp:=(ps.filter λx=>decide (x.1.2=(n:Int))).flatMap λx=>grow (aP cur x.1.1.toNat) x.2
theorem aqp(cur:List (List Sp))(ps:List Hop)(x:Hop)(n:Nat):iM cur (ps++[x]) n=iM cur ps n++(if x.1.2=(n:Int)then grow (aP cur x.1.1.toNat) x.2 else []):=by
 unfold iM;rw[wS,mO]
 congr 1
 by_cases h:x.1.2=(n:Int)
 ·simp[h]
 ·simp[h]
def rch(nodes:Nat→List dK)(steps:Nat→List Hop):Nat→List (List Sp)
 |0=>(nodes 0).map (·.1)
 |k+1=>(List.range (nodes (k+1)).length).map λn=>inter (norm (iM (rch nodes steps k) (steps k) n)) (aI (nodes (k+1)) n).1
theorem ayu(nodes:Nat→List dK)(steps:Nat→List Hop):∀k,(rch nodes steps k).length=(nodes k).length
 |0=>by simp[rch]
 |k+1=>by simp[rch]
theorem aqn(cur:List (List Sp))(st:List dK)(n:Nat):iM cur (qo st) n=(into st n).flatMap λe=>grow (aP cur e.1) e.2:=by
 have key:∀k,k≤st.length→iM cur (jk st k) n=((List.range k).flatMap λm=>((aI st m).2.filter λ(e:lG)=>decide (e.1=(n:Int))).map λe=>(m,e.2)).flatMap λe=>grow (aP cur e.1) e.2:=by
  intro k _;unfold iM jk
  induction k with
  |zero=>rfl
  |succ k ih=>
   rw[jq,mO,mO,wS,mO,mO,ih ae]
   congr 1
   simp only[jN,J5,ow,mG,agh,Zo];rfl
 exact key _ (aV _)
theorem aqo(cur:List (List Sp))(st:List dK)(n:Nat):iM cur ((qo st).map sM) n=Jc st cur n:=by
 have key:∀k,iM cur ((jk st k).map sM) n=if n<k then Jc st cur n else []:=by
  intro k
  induction k with
  |zero=>rfl
  |succ k ih=>
   have e:jk st (k+1)=jk st k++mG k (aI st k).2:=by simp[jk,jq]
   have e2:∀l:List Hop,∀l':List Hop,iM cur (l++l') n=iM cur l n++iM cur l' n:=by
    intro l l';unfold iM;rw[List.filter_append,List.flatMap_append]
   rw[e,iT,e2,ih]
   have e3:iM cur ((mG k (aI st k).2).map sM) n=if n=k then Jc st cur n else []:=by
    unfold iM mG Jc;rw[Au,agh,Zo];by_cases h:n=k
    ·subst h;rw[aG rfl]
     have:(aI st n).2.filter ((λ(x:Hop)=>decide (x.1.2=(n:Int))) ∘ (sM ∘ λ(e:lG)=>(((n:Int),e.1),e.2)))=(aI st n).2:=by
      rw[List.filter_eq_self];intro a _;simp[sM]
     rw[this];rfl
    ·rw[aD h]
     have:(aI st k).2.filter ((λ(x:Hop)=>decide (x.1.2=(n:Int))) ∘ (sM ∘ λ(e:lG)=>(((k:Int),e.1),e.2)))=[]:=by
      rw[List.filter_eq_nil_iff];intro a _;exact λe=>h (by have e2:((k:Nat):Int)=(n:Int):=EN e;omega)
     rw[this];rfl
   rw[e3];by_cases h1:n<k
   ·rw[aG h1,aD ae,aG ae,ow]
   ·by_cases h2:n=k
    ·rw[aD h1,aG h2,aG ae,fE]
    ·rw[aD h1,aD h2,aD ae,fE]
 show iM cur ((jk st st.length).map sM) n=_
 rw[key];by_cases h:n<st.length
 ·rw[aG h]
 ·rw[aD h,Jc,lW ae];rfl
theorem Wn(T:aT):∀k,rch (aN T) (λk=>qo (aN T k)) k=iG T k
 |0=>rfl
 |k+1=>by
  rw[rch,iG,aip,Wn T k];simp only[aqn]
theorem acE(T:aT):∀j,rch (λj=>aN T (T.length-1-j)) (λj=>(qo (aN T (T.length-2-j))).map sM) j=nK T j
 |0=>rfl
 |j+1=>by
  rw[rch,nK,ahe,acE T j];simp only[aqo,show T.length-1-(j+1)=T.length-2-j from ae]
theorem zC:∀ {l:List Sp} {a b:Int},bF l→(∀s∈l,a≤s.1∧s.2≤b)→a≤b+1→(l.length:Int)≤b+1-a
 |[],a,b,_,_,h=>by simp;omega
 |s::l,a,b,h,hb,_=>by
  obtain⟨h1,h2,h3⟩:=rH.1 h;have hs:=hb s aj;have:=zC (l:=l) (a:=s.2+1) (b:=b) h3 (λt ht=>⟨aa7,(hb t GD).2⟩) ae;simp only[dS];omega
structure Qa(m:Nat)(nodes:Nat→List dK)(steps:Nat→List Hop):Prop where
 pos:∀k,k<m→0<(nodes k).length∧(nodes k).length≤1000000
 al:∀k n,k<m→bF (aI (nodes k) n).1∧(∀s∈(aI (nodes k) n).1,0≤s.1∧s.2≤12000)
 st:∀k,k+1<m→∀x∈steps k,(0≤x.1.1∧x.1.1<(nodes k).length)∧(0≤x.1.2∧x.1.2<(nodes (k+1)).length)∧x.2.1≤x.2.2∧-50000≤x.2.1∧x.2.2≤50000
 nm:∀k,k+1<m→(steps k).length≤1000000
theorem atv{c:Sp}{a:Int}(h:∀s∈l,a≤s.1∧s.2≤b)(s:Sp)(hs:s∈grow l c):a+c.1≤s.1∧s.2≤b+c.2:=by
 simp only[grow,dz]at hs;obtain⟨u,hu,rfl⟩:=hs;have:=h u hu;dsimp only;omega
theorem akz{a:List Sp}{x:Int}(h:∀s∈a,x≤s.1∧s.2≤y)(s:Sp)(hs:s∈inter l a):x≤s.1∧s.2≤y:=by
 simp only[inter,iB,r9,dz]at hs;obtain⟨u,_,⟨t,ht,rfl⟩,_⟩:=hs;have:=h t ht;dsimp only;omega
theorem Jd{m:Nat}{nodes:Nat→List dK}{steps:Nat→List Hop}(H:Qa m nodes steps):∀ {k:Nat},k<m→∀n,bF (aP (rch nodes steps k) n)∧(∀s∈aP (rch nodes steps k) n,0≤s.1∧s.2≤12000)
 |0,hk,n=>by rw[rch,KV];exact H.al 0 n hk
 |k+1,hk,n=>by
  rw[rch];by_cases h:n<(nodes (k+1)).length
  ·rw[Bh h];have:=H.al (k+1) n hk;exact⟨Be (oQ _) this.1,akz this.2⟩
  ·rw[I4 ae];exact⟨kH,aj⟩
theorem acF{m:Nat}{nodes:Nat→List dK}{steps:Nat→List Hop}(H:Qa m nodes steps)(hk:k<m)(n:Nat):(aP (rch nodes steps k) n).length≤12001:=by
 have h:=Jd H hk n;have:=zC h.1 h.2 ae;omega
theorem ZU{cur:List (List Sp)}(hc:∀n,Qf (aP cur n)∧(∀s∈aP cur n,0≤s.1∧s.2≤12000)∧(aP cur n).length≤12001):∀(ps:List Hop),(∀x∈ps,x.2.1≤x.2.2∧-50000≤x.2.1∧x.2.2≤50000)→∀n,
  (iM cur ps n).length≤ps.length*12001∧∀s∈iM cur ps n,-50000≤s.1∧s.1≤s.2∧s.2≤62000
 |[],_,n=>by simp[iM]
 |x::ps,h,n=>by
  have ih:=ZU hc ps (λy hy=>h y (by simp[hy])) n
  have e:iM cur (x::ps) n=(if x.1.2=(n:Int)then grow (aP cur x.1.1.toNat) x.2 else [])++iM cur ps n:=by
   unfold iM;by_cases hx:x.1.2=(n:Int)
   ·simp[hx]
   ·simp[hx]
  have h1:=hc x.1.1.toNat;have hx:=h x aj;have hl:(grow (aP cur x.1.1.toNat) x.2).length=(aP cur x.1.1.toNat).length:=by simp[grow]
  rw[e,dn,dS];constructor
  ·have h2:=h1.2.2;split
   ·rw[hl];omega
   ·rw[fU];omega
  ·intro s hs;rcases oH.1 hs with hs|hs
   ·split at hs
    ·have a:=atv h1.2.1 s hs;have b:=atw h1.1 hx.1 s hs;omega
    ·simp at hs
   ·exact ih.2 s hs
theorem vT{st:List dK}(h:k<st.length):aI st k=st[k]:=amO
theorem NJ{a:Int}(h:∀s∈l,a≤s.1∧s.2≤b)(s:Sp)(hs:s∈norm l):a≤s.1∧s.2≤b:=by
 have hv:=(oQ l).1 s hs;have h1:Mem s.1 (norm l):=⟨s,hs,oo _,hv⟩;have h2:Mem s.2 (norm l):=⟨s,hs,hv,oo _⟩;obtain⟨t,ht,g1,_⟩:=pX.1 h1;obtain⟨u,hu,_,g4⟩:=pX.1 h2;have:=h t ht;have:=h u hu;omega
theorem amD:∀ {l:List Sp} {a:Int},Dy a l=true→bF l∧∀s∈l,a+2≤s.1∧s.2≤100000
 |[],_,_=>⟨kH,by simp⟩
 |s::l,a,h=>by
  have h1:=amC a (l:=s::l) (k:=0) aj;simp only[age,Zq,oJ,List.drop_succ_cons]at h1;rw[h1,bW,dG]at h;have ih:=amD h.2;refine⟨rH.2 ⟨ae,λt ht=>by have:=(ih.2 t ht).1;omega,ih.1⟩,λt ht=>?_⟩;rcases mP.1 ht with rfl|ht
  ·omega
  ·have:=ih.2 t ht;omega
theorem am2:∀ {T:List (List dK)} {next:Int},qd next T=true→∀k,(h:k<T.length)→sU (if k=0 then next else((aN T (k-1)).length:Int)) T[k]=true
 |[],_,_,k,h=>by simp at h
 |l::T,next,hB,k,h=>by
  simp only[qd,bW]at hB
  cases k with
  |zero=>simpa using hB.1
  |succ k=>
   have:=am2 hB.2 k wu;rw[aD ae];simp only[Hz,Nat.add_sub_cancel];by_cases e:k=0
   ·subst e;simpa[aN]using this
   ·rw[aD e]at this
    have e2:aN (l::T) k=aN T (k-1):=by
     obtain⟨j,rfl⟩:∃j,k=j+1:=⟨k-1,ae⟩;simp[aN]
    rw[e2];exact this
structure ib(T:aT):Prop where
 ok:zM T=0
 al:∀k n,∀s∈(aI (aN T k) n).1,0≤s.1∧s.2≤12000
 ed:∀k n,∀e∈(aI (aN T k) n).2,-50000≤e.2.1∧e.2.2≤50000
theorem zL(h:k<T.length):aN T k=T[k]:=by simp[aN,bN,h]
theorem am7(h:T.length≤k):aN T k=[]:=by rw[aN,bN,wT h];rfl
theorem ib.len(h:ib T):1≤T.length∧T.length≤401:=by
 have:=h.ok;unfold zM at this;split at this
 ·exact qI
 ·cases this
theorem ib.stage(h:ib T)(hk:k<T.length):sU ((aN T (k+1)).length:Int) (aN T k)=true:=by
 have h0:=h.ok;unfold zM at h0;rw[aG h.len]at h0
 have h1:qd 0 T.reverse=true:=by
  cases hb:qd 0 T.reverse
  ·rw[hb]at h0;simp at h0
  ·rfl
 have h2:=am2 h1 (T.length-1-k) bC
 have e1:T.reverse[T.length-1-k]' bC=aN T k:=by
  rw[Zr,zL hk];congr 1;omega
 rw[e1]at h2;by_cases e:k+1=T.length
 ·rw[aG ae]at h2;rw[am7 ae];exact h2
 ·rw[aD ae]at h2
  have e2:aN T.reverse (T.length-1-k-1)=aN T (k+1):=by
   rw[zL bC,Zr,zL ae];congr 1;omega
  rw[e2]at h2;exact h2
theorem ib.pos(h:ib T)(hk:k<T.length):0<(aN T k).length∧(aN T k).length≤4000:=by
 have:=h.stage hk;simp only[sU,bW,dG]at this;omega
theorem ib.node(h:ib T)(k n:Nat):bF (aI (aN T k) n).1∧(aI (aN T k) n).2.length≤64∧∀e∈(aI (aN T k) n).2,0≤e.1∧e.1<(aN T (k+1)).length∧e.2.1≤e.2.2:=by
 by_cases hk:k<T.length
 ·by_cases hn:n<(aN T k).length
  ·have:=h.stage hk;simp only[sU,bW,dG,mq]at this;have h1:=this.2 _ (eu hn);rw[←vT hn]at h1;simp only[Dh,xy,EH,AR,Ik,bW,dG,mq]at h1;exact⟨(amD h1.1.1.2).1,h1.1.2,λe he=>by have:=h1.2 e he;omega⟩
  ·rw[lW ae];exact⟨kH,aj,aj⟩
 ·rw[am7 ae,lW aj];exact⟨kH,aj,aj⟩
theorem ib.trk(h:ib T):Ia T:=⟨λk n=>(h.node k n).1,λk n e he=>(h.node k n).2.2 e he⟩
theorem aAk{st:List dK}{x:Hop}(hx:x∈qo st):∃n:Nat,n<st.length∧x.1.1=(n:Int)∧(x.1.2,x.2)∈(aI st n).2:=by
 unfold qo jk mG at hx;simp only[iB,fD,dz]at hx;obtain⟨n,hn,e,he,rfl⟩:=hx;exact⟨n,hn,rfl,he⟩
theorem ib.steps(h:ib T)(hk:k+1<T.length)(x:Hop)(hx:x∈qo (aN T k)):
  (0≤x.1.1∧x.1.1<(aN T k).length)∧(0≤x.1.2∧x.1.2<(aN T (k+1)).length)∧x.2.1≤x.2.2∧-50000≤x.2.1∧x.2.2≤50000:=by
 obtain⟨n,hn,h1,h2⟩:=aAk hx;have h3:=(h.node k n).2.2 _ h2;have h4:=h.ed k n _ h2;dsimp only at h3 h4;omega
theorem ib.steps_len(h:ib T)(hk:k<T.length):(qo (aN T k)).length≤1000000:=by
 have h2:=(h.pos hk).2
 have key:∀m,(jk (aN T k) m).length≤m*64:=by
  intro m
  induction m with
  |zero=>simp[jk]
  |succ m ih=>
   have e:jk (aN T k) (m+1)=jk (aN T k) m++mG m (aI (aN T k) m).2:=by simp[jk,jq]
   have:=(h.node k m).2.1;rw[e,dn,mG,fC];omega
 have:=key (aN T k).length;show(jk (aN T k) (aN T k).length).length≤_
 omega
theorem ib.ahead(h:ib T):Qa T.length (aN T) λk=>qo (aN T k):=
 ⟨λk hk=>by have:=h.pos hk;omega,λk n _=>⟨(h.node k n).1,h.al k n⟩,λk hk x hx=>h.steps hk x hx,λk hk=>h.steps_len ae⟩
theorem ib.back(h:ib T):Qa T.length (λj=>aN T (T.length-1-j)) λj=>(qo (aN T (T.length-2-j))).map sM:=
 ⟨λk hk=>by have:=h.pos (k:=T.length-1-k) ae;omega,λk n _=>⟨(h.node _ n).1,h.al _ n⟩,λk hk x hx=>by
  obtain⟨y,hy,rfl⟩:=dz.1 hx;have h1:=h.steps (k:=T.length-2-k) ae y hy;have e1:T.length-2-k+1=T.length-1-k:=ae;have e2:T.length-1-(k+1)=T.length-2-k:=ae;rw[e1]at h1;unfold sM;dsimp only;rw[e2]
  omega,λk hk=>by rw[fC];exact h.steps_len ae⟩
theorem air(T:aT)(k:Nat):(iG T k).length=(aN T k).length:=by rw[←Wn,ayu]
section
attribute [local go_sem] Qv
attribute [local go_sem] Oper.semAt_some
def iV(L:List Sp):Nat:=(L.length+49) / 50
def rM(L:List Sp)(j:Nat):List Sp:=(L.drop (50*j)).take 50
theorem RH(L:List Sp)(j:Nat):(rM L j).length=min 50 (L.length-50*j):=by simp[rM]
theorem ahv:∀(n:Nat) (L:List Sp),L.length≤n→chunks 50 n L=(List.range (iV L)).map (rM L)
 |0,L,h=>by
  have:L=[]:=jo ae;subst this;rfl
 |n+1,L,h=>by
  unfold chunks;split
  ·rename_i e;subst e;rfl
  ·rename_i e;have h0:0<L.length:=agl.2 e;rw[ahv n (L.drop 50) (by rw[Cu];omega)];have e1:iV L=iV (L.drop 50)+1:=by unfold iV;rw[List.length_drop];omega
   rw[e1,List.range_succ_eq_map,oG,Au]
   congr 1
   refine J7 λj _=>?_;simp only[Function.comp_apply,rM,List.drop_drop]
   congr 2
   omega
theorem RJ(L:List Sp):RI L=(List.range (iV L)).map (rM L):=ahv _ _ (aV _)
def aax(x:Value×List Sp):Array Value:=#[x.1]
def Im(b o:Nat)(L:List Sp)(j:Nat):Value×List Sp:=(.slice (some ⟨b,o+50*j*2,none⟩) (rM L j).length (rM L j).length,rM L j)
def pM(b o:Nat)(L:List Sp):List (Value×List Sp):=(List.range (iV L)).map (Im b o L)
theorem arA(b o:Nat)(L:List Sp)(h:j<iV L):(pM b o L).take (j+1)=(pM b o L).take j++[Im b o L j]:=by
 have h1:j<(pM b o L).length:=by simp[pM];exact h
 rw[jF h1]
 congr 2
 simp[pM]
theorem axZ{b:Nat}(h:Shape.span.list.reads A W [.slice (some ⟨b,o,none⟩) L.length c] L)(hj:j<iV L):Shape.span.list.reads A W [(Im b o L j).1] (rM L j):=by
 obtain⟨a',c',e,h1,h2,h3⟩:=h;have hp:0<L.length:=by unfold iV at hj;omega
 obtain⟨b',o',e2,hb,hA,hr⟩:=h3 hp;simp only[oC,qY,qZ]at e;obtain⟨rfl,e3⟩:=e;cases e2;refine⟨_,_,rfl,Nat.le_refl _,by rw[RH];unfold maxLen;omega,λh0=>⟨b,_,rfl,hb,hA,λk hk=>?_⟩⟩;have hk2:50*j+k<L.length:=by rw[RH]at hk;omega
 obtain⟨cs,g1,g2⟩:=hr (50*j+k) hk2;have e4:(rM L j)[k]=L[50*j+k]:=by simp[rM]
 refine⟨cs,by rw[e4];exact g1,λi hi=>?_⟩;rw[←g2 i hi]
 congr 2
 show o+50*j*2+k*2+i=o+(50*j+k)*2+i
 omega
theorem arB(Bs Bn n b o c:Nat)(a:Option Addr)(L:List Sp)(w:World)(hs:Bx Bs [.slice a L.length c] w)(hn:Bx Bn [.int .i64 50] w)(hc:L.length≤c)(hc2:c≤maxLen)(hL:L.length≤1000000)(ha:0<L.length→a=some ⟨b,o,none⟩):
  su prog n 174 #[.pointer (some ⟨Bs,0,none⟩),.pointer (some ⟨Bn,0,none⟩)] aax (λk=>k=Bs∨k=Bn) (λys=>ys=pM b o L) 1000000 w:=by
 intro l J Jx W hW hJ hJx hY hj0;have FE:=U (hs.next hW);have BV:=U (hn.next hW);have HA:=U ha;clear hs hn ha;unfold maxLen at hc2;have HJ:=U hJ;have HY:=U hY;have hj0:=U hj0;clear hJ hY;have zZ:Hid (iV L≤20000∧∀j,j<iV L↔50*j<L.length):=U (by unfold iV;exact⟨ae,λj=>ae⟩);refine xV func174 rfl trivial ?_ rfl;simp only[ntmps174,jb,dS,fU,Nat.reduceAdd,Nat.reduceSub,kv,kw,kC,kz,fE,gB];have hfn:∀k,Fence.wide.fn k:=(λ_=>trivial);have hdp:¬(Fence.wide.depth.isSome=true):=kL;gi_wp2
 gi_loopw [4] (λs4 wr=>∃j:Nat,j≤iV L∧s4=.int .i64 ((50*j:Nat):Int)∧Hid (J (λ_=>False) ((pM b o L).take j) wr)∧Hid (∀k,k=Bs∨k=Bn→wr.heap[k]?=W.heap[k]?)∧W.heap.size≤wr.heap.size) (λs4 _=>L.length+50-(intOf s4).toNat)
 case atStart=>exact⟨0,ae,aj,hj0,U (λ_ _=>rfl),aV _⟩
 case round=>
  obtain⟨j,hj,rfl,gL,HR,hsz⟩:=hrel;have XS:=FE.o.block (HR.o Bs (.inl rfl)) hsz;have XN:=BV.o.block (HR.o Bn (.inr rfl)) hsz;have s0:=XS.cell 0;have n0:=XN.cell 0;have sl:=XS.lt;have nl:=XN.lt;simp only[aK]at s0 n0;by_cases hlt:j<iV L
  ·have h50:=(zZ.o.2 j).1 hlt;have hj2:=zZ.o.1;have HAA:=HA.o ae;subst HAA;obtain⟨I,hI⟩:=nm (50*j);obtain⟨m,hm⟩:∃m:Nat,Hid (min 50 (L.length-50*j)=m):=⟨_,U rfl⟩;have DY:=U (RH L j);rw[hm.o]at DY;rw[hI.o]at h50 hm ⊢;have HV:Hid ((Im b o L j).1=.slice (some ⟨b,o+I*2,none⟩) m m):=U (by unfold Im;rw[DY.o,hI.o]);have kR:=U (arA b o L hlt);have JL:Hid ((pM b o L).take j++[Im b o L j] <+: pM b o L):=U (by rw[←kR.o];exact Ur _ _);have hmm:min (50:Int) ((L.length-I:Nat):Int)=(m:Int):=VA;have hm1:m≤50∧I+m≤L.length:=VA;have hII:I≤1000000:=ae;have i1:(I:Int)<L.length:=ae;have i2:(0:Int)≤(I:Int):=ae;have i3:(I:Int)≤L.length:=ae;have i4:(I:Int)≤c:=ae;gi_wp2;refine rU [] [] 0 [] [] [0,1,2,3,4,5,6] [] [] [_,_,_,_,_,_,_] ?_;refine aH (qy ?_)
   (repeat(go_big_quiet_step (fail)));refine aH ?_
   intro nq;refine uO ?_;obtain⟨fn,tmps,assign,body,hy,hR⟩:=HY.o (λ_=>False) ((pM b o L).take j) (Im b o L j) (wr.drewN nq) (HJ.o _ _ _ _ _ gL.o (aA.drewN _ _ nq) (λ_ h=>.inl h)) Wx ⟨_,rfl,JL.o⟩ trivial;dsimp only[aax]at hy;rw[HV.o]at hy;have e9:((I:Int)+(m:Int)).toNat-I=m:=ae;have i5:(0:Int)≤(I:Int)+m:=ae;have i6:(I:Int)≤(I:Int)+m:=ae;have i7:(I:Int)+m≤c:=ae;gi_wp2_with fail;refine hR.mono ?_;rintro e W3 (⟨rfl,hJ3,hs3,hk3⟩|⟨rfl,hJ3,_,_⟩)
   ·have HR3:Hid (∀k,k=Bs∨k=Bn→W3.heap[k]?=W.heap[k]?):=U (λq hq=>(hk3 q (.inl hq)).trans (HR.o q hq));have gK:=U hJ3;have hs4:wr.heap.size≤W3.heap.size:=hs3;have XN3:=BV.o.block (HR3.o Bn (.inr rfl)) ae;have n3:=XN3.cell 0;have nl3:=XN3.lt;simp only[aK]at n3;clear hk3 hJ3 hR hy hs3 s0 n0;gi_wp2;go_roundw
    case rel=>exact⟨j+1,ae,by have:=hI.o;first|go_num|(simp;omega),by rw[kR.o];exact gK,HR3,ae⟩
    case measure=>exact aFF
   ·have gK:=U hJ3;clear hJ3 hR hy s0 n0;gi_wp2;go_end0;exact⟨⟨_,rfl⟩,λ_=>False,_,.inr gK.o⟩
  ·have hjj:j=iV L:=ae;have h50:¬50*j<L.length:=λh=>hlt ((zZ.o.2 j).2 h);obtain⟨I,hI⟩:=nm (50*j);rw[hI.o]at h50 ⊢;have i1:¬(I:Int)<L.length:=ae;gi_wp2;go_end0;refine⟨⟨_,rfl⟩,λ_=>False,pM b o L,.inl ⟨rfl,?_⟩⟩;have:=gL.o;rw[hjj,show(pM b o L).take (iV L)=pM b o L by rw[FY];simp[pM]]at this;exact this
theorem arz(a:Option Addr)(n c:Nat)(w:World):Calls prog 115 #[.slice a n c,.int .i64 50] w λe w'=>e=.returned (.func (.func 174) #[] #[.pointer (some ⟨w.heap.size,0,none⟩),.pointer (some ⟨w.heap.size+1,0,none⟩)])∧Bx w.heap.size [.slice a n c] w'∧Bx (w.heap.size+1) [.int .i64 50] w'∧BL w w':=by
 go_in;go_wp2;go_ret;exact⟨rfl,(Bx.new rfl).alloc _,Bx.new aj,Bl.alloc (Bl.alloc (aB _ _) _) _⟩
end
def Ka(g c base:Nat)(vs:List Value)(v:Value)(ys:List Sp)(w w':World):Prop:=
 ∃v',Bx g (vs.set c v') w'∧bG base w' v' ys∧aA (λb=>b=g∨v.ownBlock=some b) w w'∧∀q,v'.ownBlock=some q→v.ownBlock=some q∨w.heap.size≤q
structure nV(base g:Nat)(pos:Nat→Nat)(N:Nat)(L:Nat→List Sp)(vf:Nat→Value)(vs:List Value)(W:World):Prop where
 bx:Bx g vs W
 gb:g<base
 cell:∀j,j<N→vs[pos j]?=some (vf j)
 inj:∀i j,i<N→j<N→pos i=pos j→i=j
 sp:∀j,j<N→bG base W (vf j) (L j)
 apart:∀i j q,i<N→j<N→i≠j→(vf i).ownBlock=some q→(vf j).ownBlock≠some q
section
variable {base g N:Nat} {pos:Nat→Nat} {L:Nat→List Sp} {vf:Nat→Value} {vs:List Value} {W W':World}
theorem nV.turns{own:Nat→Prop}(h:nV base g pos N L vf vs W)(t:aA own W W')(hg:¬own g)(hr:∀j q,j<N→(vf j).ownBlock=some q→¬own q):nV base g pos N L vf vs W':=
 ⟨by
  have:=h.bx.lt
  exact h.bx.block (t.block g this hg) t.size,h.gb,h.cell,h.inj,λj hj=>fO (h.sp j hj) t (λq hq=>hr j q hj hq),h.apart⟩
theorem nV.below(h:nV base g pos N L vf vs W)(hb:BL W W'):nV base g pos N L vf vs W':=h.turns (aA.of_below (own:=λ_=>False) hb) (λx=>x) (λ_ _ _ _ x=>x)
theorem nV.same{L':Nat→List Sp}(h:nV base g pos N L vf vs W)(e:∀j,j<N→L' j=L j):nV base g pos N L' vf vs W:=⟨h.bx,h.gb,h.cell,h.inj,λj hj=>by rw[e j hj];exact h.sp j hj,h.apart⟩
theorem nV.put(h:nV base g pos N L vf vs W)(hi:i<N)(hp:Ka g (pos i) base vs (vf i) ys W W'):
  ∃v',nV base g pos N (λj=>if j=i then ys else L j) (λj=>if j=i then v' else vf j) (vs.set (pos i) v') W'∧(∀q,v'.ownBlock=some q→(vf i).ownBlock=some q∨W.heap.size≤q)∧aA (λb=>b=g∨(vf i).ownBlock=some b) W W':=by
 obtain⟨v',h1,h2,h3,h4⟩:=hp;have hlt:=(gN.1 (h.cell i hi)).1;refine⟨v',⟨h1,h.gb,λj hj=>?_,h.inj,λj hj=>?_,λa b q ha hb hne k1 k2=>?_⟩,h4,h3⟩
 ·by_cases e:j=i
  ·subst e;rw[yU hlt,aG rfl]
  ·rw[Ar (λk=>e (h.inj j i hj hi k.symm)),aD e];exact h.cell j hj
 ·by_cases e:j=i
  ·subst e;simp only[aG];exact h2
  ·simp only[aD e];refine fO (h.sp j hj) h3 λq hq k=>?_;rcases k with k|k
   ·have:=((h.sp j hj).lt q hq).1;have:=h.gb;omega
   ·exact h.apart i j q hi hj (λx=>e x.symm) k hq
 ·by_cases ea:a=i
  ·have eb:b≠i:=λe=>hne (ea.trans e.symm);simp only[aG ea]at k1;simp only[aD eb]at k2;rcases h4 q k1 with h5|h5
   ·exact h.apart i b q hi hb (Ay eb) h5 k2
   ·have:=((h.sp b hb).lt q k2).2;omega
  ·simp only[aD ea]at k1;by_cases eb:b=i
   ·simp only[aG eb]at k2;rcases h4 q k2 with h5|h5
    ·exact h.apart a i q ha hi ea k1 h5
    ·have:=((h.sp a ha).lt q k1).2;omega
   ·simp only[aD eb]at k2;exact h.apart a b q ha hb hne k1 k2
end
def sJ(p:bU)(zs:List (Int×Sp))(c:Nat):List Sp:=merge ((zs.filter λz=>decide (z.2.1≤(c:Int))&&decide ((c:Int)≤z.2.2)).map λz=>(gD p z.1,gD p z.1))
theorem awG(p:bU)(c:Nat):sJ p [] c=[]:=rfl
theorem akR(p:bU)(zs:List (Int×Sp))(z:Int×Sp)(c:Nat):sJ p (zs++[z]) c=if z.2.1≤(c:Int)∧(c:Int)≤z.2.2 then ik (sJ p zs c) (gD p z.1,gD p z.1)else sJ p zs c:=by
 unfold sJ merge;rw[wS,iT,Mv];by_cases h:z.2.1≤(c:Int)∧(c:Int)≤z.2.2
 ·rw[aG h];simp[h.1,h.2]
 ·rw[aD h];have:(decide (z.2.1≤(c:Int))&&decide ((c:Int)≤z.2.2))=false:=wu;simp[this]
end Go.Proofs.YtfmckbjeofiegaaGreat
