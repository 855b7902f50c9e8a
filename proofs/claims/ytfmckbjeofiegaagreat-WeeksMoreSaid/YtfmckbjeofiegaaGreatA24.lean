/- Part 24 of a proof. -/
import Derived.Test.YtfmckbjeofiegaaGreatA20
import Derived.Test.YtfmckbjeofiegaaGreatA22
set_option maxRecDepth 100000
set_option maxHeartbeats 16000000
set_option linter.all false
open Go Go.RowKit Go.Proofs.Tryz
namespace Go.Proofs.YtfmckbjeofiegaaGreat
variable {d:jD}{f:aQ}{hi z:Int}{L l:List Sp}{ss:List dx}{cs:List Value}{base c i k lo o:Nat}{A:Nat→Prop}{P:Program}{T:aT}{α β:Type}{e:TypeId}{v:Value}{x:aJ}{W W' w':World}
section
attribute [local go_sem] Qv
attribute [local go_sem] Oper.semAt_some
theorem aC.same{s:Shape α}{w:World}{xs:List α}(h:aC s w v xs)(hs:w.heap.size≤W.heap.size)(hk:∀q,q<w.heap.size→W.heap[q]?=w.heap[q]?):aC s W v xs:=
 Shape.list_far (s.list.keep (s.list.mono h (A':=λq=>q<w.heap.size) λ_ hb _=>hb) ⟨hs,λb hb _=>hk b hb⟩)
theorem mI.same{st:Int}{C:Nat}{w:World}(h:mI x f st C cs w)(hs:w.heap.size≤W.heap.size)(hk:∀q,q<w.heap.size→W.heap[q]?=w.heap[q]?):mI x f st C cs W:=by
 obtain⟨⟨b,p,⟨v1,m1,m2⟩,⟨v2,r1,r2⟩,t,⟨v3,i1,i2⟩,⟨v4,g1,g2⟩,⟨v5,z1,z2⟩⟩,⟨v,l1,l2⟩,⟨M,x1,x2⟩⟩:=h;exact⟨⟨b.block (hk _ b.lt) hs,p,⟨v1,m1,m2.same hs hk⟩,⟨v2,r1,r2.same hs hk⟩,t,⟨v3,i1,i2.same hs hk⟩,⟨v4,g1,g2.same hs hk⟩,⟨v5,z1,z2.same hs hk⟩⟩,⟨v,l1,l2.same hs hk⟩,⟨M,x1,x2.block (hk _ x2.lt)⟩⟩
def CU(y:Value×aT×Int):Array Value:=#[.agg #[y.1],.int .i64 y.2.2]
def zT(x:aJ)(f:aQ)(st z:Int):aT×Int:=(bQ x f st z,z)
theorem WY(x:aJ)(f:aQ)(st:Int)(term:Nat)(within:List Sp):bT x f st term within true=(iw f).map (zT x f st):=by
 unfold bT;simp only[if_true]
 induction iw f with
 |nil=>rfl
 |cons z l ih=>rw[jN,ih];rfl
theorem Xx(f:aQ):(iw f).length=(f.sheet.zhi+1-f.sheet.zlo).toNat:=by simp[iw]
theorem Xy(h:z∈iw f):f.sheet.zlo≤z∧z≤f.sheet.zhi:=by
 unfold iw at h;obtain⟨k,hk,rfl⟩:=dz.1 h;have:=fD.1 hk;omega
theorem acC{pre:List (Value×β)}{y:Value×β}{L:List β}(h:(pre.map (·.2))++[y.2] <+: L):∃ys:List (Value×β),ys.map (·.2)=L∧(pre++[y]) <+: ys:=by
 obtain⟨r,hr⟩:=h;exact⟨(pre++[y])++r.map λp=>(undef,p),by rw[←hr];simp[Function.comp_def],PZ _ _⟩
theorem aAJ(x:aJ)(f:aQ)(st:Int)(C:Nat)(cs:List Value)(term:Nat)(within:List Sp)(Bc Ba Bw Bt n:Nat)(w0 w:World)(hF:mI x f st C cs w0)(hP:GU x f)(hl:(aL x f).length≤1000000)(hs0:w0.heap.size≤w.heap.size)(hk0:∀q,q<w0.heap.size→w.heap[q]?=w0.heap[q]?)
  (kW:Bx Bc [.pointer (some ⟨C,0,none⟩)] w) (hBa:Bx Ba [.bool true] w) :
  su prog n 113 #[.pointer (some ⟨Bc,0,none⟩),.pointer (some ⟨Ba,0,none⟩),.pointer (some ⟨Bw,0,none⟩),.pointer (some ⟨Bt,0,none⟩)] CU (λk=>k<w0.heap.size∨k=Bc∨k=Ba∨k=Bw∨k=Bt) (λys=>ys.map (·.2)=bT x f st term within true) 1000000000 w (λy W=>aC Shape.nod.list W y.1 y.2.1):=by
 rw[WY];intro l J Jx W hW hJ hJx hY hj0;have rY:=U hF;have HW0:Hid (∀q,q<w0.heap.size→W.heap[q]?=w0.heap[q]?):=U (λq hq=>(hW.block q ae).trans (hk0 q hq));have hN:w0.heap.size≤W.heap.size:=fK hs0 hW.size;have HC:=U (kW.next hW);have HA:=U (hBa.next hW);have HP:=U hP;clear hF hP kW hBa hk0 hW;obtain⟨vz,hz1,hz2⟩:=rY.o.m.zeroes;obtain⟨az,cz,rfl,hc1,hc2⟩:=hz2.shape;unfold maxLen at hc2;have HZ:=U hz2;clear hz2;have lC:=rY.o.m.bx.lt;have NU:=(rY.o.m.bx.cell 25).trans hz1;have SF:W.cell? ⟨C,25,none⟩=some (.slice az (iw f).length cz):=(iL (w:=w0) (w':=W) (a:=⟨C,25,none⟩) (HW0.o C lC)).trans NU;have lCW:C<W.heap.size:=ae;have p0:=HC.o.cell 0;have lc:=HC.o.lt;simp only[aK]at p0;have J2:Hid (∀z∈iw f,-200≤z∧z≤200):=U (λz hz=>ajy);have hzl:(iw f).length≤401:=amo;generalize iw f=zs at *;have HJ:=U hJ;have HY:=U hY;have hj0:=U hj0;clear hJ hY;refine xV func113 rfl trivial ?_ rfl;simp only[ntmps113,jb,dS,fU,Nat.reduceAdd,Nat.reduceSub,kv,kw,kC,kz,fE,gB];have hfn:∀k,Fence.wide.fn k:=(λ_=>trivial);have hdp:¬(Fence.wide.depth.isSome=true):=kL;gi_wp2_with fail;have X5:=U (Bx.new (W:=W) (t:=186) (vs:=[.func (.yield l) #[] #[]]) rfl)
 have hj1:=U (HJ.o _ (λq=>q=W.heap.size) _ _ _ hj0.o (aA.alloc _ W (.cells #[.func (.yield l) #[] #[]] 186)) (λk e=>.inr bC));have hr1:Hid (∀q,q<W.heap.size→(W.alloc (.cells #[.func (.yield l) #[] #[]] 186)).heap[q]?=W.heap[q]?):=U (λq hq=>DJ _ _ _ hq);have hs1:W.heap.size+1≤(W.alloc (.cells #[.func (.yield l) #[] #[]] 186)).heap.size:=aj;generalize W.alloc (.cells #[.func (.yield l) #[] #[]] 186)=W1 at *;clear SF p0 hj0
 gi_loopw [15] (λs15 wr=>∃(k:Nat) (pre:List (Value×aT×Int)),k≤zs.length∧s15=.int .i64 k∧Hid (pre.map (·.2)=(zs.take k).map (zT x f st))∧Hid (J (λq=>q=W.heap.size) pre wr)∧Hid (∀q,(q<w0.heap.size∨q=Bc∨q=Ba)→wr.heap[q]?=W.heap[q]?)∧Hid (Bx W.heap.size [.func (.yield l) #[] #[]] wr)∧W.heap.size+1≤wr.heap.size) (λs15 _=>zs.length-(intOf s15).toNat)
 case atStart=>exact⟨0,[],tX _,rfl,U rfl,hj1,U (λq h=>hr1.o q ayo),X5,hs1⟩
 case round=>
  clear X5 hj1 hr1 hs1;obtain⟨k,pre,hk,rfl,nG,gL,HR,X5,hsz⟩:=hrel;by_cases hlt:k<zs.length
  ·have Am:Hid (∀q,q<w0.heap.size→wr.heap[q]?=w0.heap[q]?):=U (λq hq=>(HR.o q (.inl hq)).trans (HW0.o q hq));have vN:w0.heap.size≤wr.heap.size:=ae;have XC:=HC.o.block (HR.o Bc (.inr (.inl rfl))) ae;have XA:=HA.o.block (HR.o Ba (.inr (.inr rfl))) ae;have c0:=XC.cell 0;have a0:=XA.cell 0;have cl:=XC.lt;have al:=XA.lt;have f0:=X5.o.cell 0;have fl:=X5.o.lt;simp only[aK]at c0 a0 f0;obtain⟨bz,oz,rfl,d1⟩:=(HZ.o.same vN Am.o).int_at hlt;have J3:=U (J2.o _ (eu hlt));have kR:Hid (∀v:Value,((pre++[((v,bQ x f st zs[k],zs[k]):Value×aT×Int)]).map (·.2))=(zs.take (k+1)).map (zT x f st)):=U (λv=>ayW);have Fw:Hid ((zs.take (k+1)).map (zT x f st) <+: zs.map (zT x f st)):=U ayZ;have hpl:pre.length=k:=by have:=gQ List.length nG.o;simp at this;omega
   generalize zs[k]=z at *;have i1:(0:Int)≤(k:Int):=ae;have i2:(k:Int)<zs.length:=ae;gi_wp2_with fail;have dQ:=Bl.alloc (aB wr.heap.size wr) (.cells #[z] 3);refine(jH jJ (aar x f st C cs z _ ((rY.o.same vN Am.o).below dQ) HP.o J3.o hl)).mono ?_;rintro e W5 ⟨v,rfl,hT,hb5⟩;have HT:=U (kK hT);clear hT;obtain⟨at',vK,rfl,ht1,ht2⟩:=HT.o.shape;have hbb:=Bl.call dQ hb5;have X7:=(Bx.new (W:=wr) (t:=3) (vs:=[.int .i64 z]) rfl).next hb5;have z0:=X7.cell 0;have zl:=X7.lt;simp only[aK]at z0;have bq:=Bl.alloc hbb (.cells #[.slice at' (bQ x f st z).length vK] 139);have a1:=(XA.next bq).cell 0;have ZV:=(XA.next bq).lt;have f1:=(X5.o.next bq).cell 0;have fl1:=(X5.o.next bq).lt;simp only[aK]at a1 f1;obtain⟨fn,tmps,assign,body,hy,hR⟩:=HY.o (λq=>q=W.heap.size) pre (.slice at' (bQ x f st z).length vK,bQ x f st z,z) (W5.alloc (.cells #[.slice at' (bQ x f st z).length vK] 139)) (HJ.o _ _ _ _ _ gL.o (aA.of_below bq) (λ_ h=>.inl h)) ae (acC (by have:=kR.o undef;rw[iT]at this;simp only[oG,Av]at this;rw[this];exact Fw.o)) (HT.o.below (Bl.alloc (aB _ _) _));dsimp only[CU]at hy;gi_wp2_with fail
   have hbl:∀q,q<wr.heap.size→(W5.alloc (.cells #[.slice at' (bQ x f st z).length vK] 139)).heap[q]?=wr.heap[q]?:=λq hq=>bq.block q hq;have lU:=bq.size;have hcl:=HC.o.lt;have hal:=HA.o.lt;refine hR.mono ?_;rintro e W3 (⟨rfl,hJ3,hs3,hk3⟩|⟨rfl,hJ3,hs3,hk3⟩)
   ·have HR3:Hid (∀q,(q<w0.heap.size∨q=Bc∨q=Ba)→W3.heap[q]?=W.heap[q]?):=U (λq hq=>(hk3 q (.inl ayr)).trans ((hbl q ae).trans (HR.o q hq)));have ZP:=U (X5.o.block ((hk3 _ (.inr rfl)).trans (hbl _ fl)) ae);have gK:=U hJ3;have hz3:W.heap.size+1≤W3.heap.size:=ae;clear hk3 hJ3 hR hy hs3 hbl lU;gi_wp2;go_roundw
    case rel=>exact⟨k+1,_,ae,aY,U (kR.o _),gK,HR3,ZP,hz3⟩
    case measure=>exact aFF
   ·have gK:=U hJ3;clear hk3 hJ3 hR hy hs3 hbl lU;gi_wp2;go_end0;exact⟨⟨_,rfl⟩,_,_,.inr gK.o⟩
  ·obtain rfl:k=zs.length:=ae;gi_wp2;go_end0;refine⟨⟨_,rfl⟩,_,pre,.inl ⟨?_,gL.o⟩⟩;show List.map _ pre=_
   rw[nG.o,jc]
theorem abZ{F:Fence}{n:Nat}{P:Program}{fn:Func}{tmps:Array Value}{R:Ending→World→Prop}{lo:Nat}:∀(ds:List Deferred) (W:World),Marks lo ds W→
  (∀W',aA (λq=>({ target:=.collected q,args:=#[] }:Deferred)∈ds) W W'→LeavesIn F n P fn tmps R [] .returning W')→LeavesInM F n P fn tmps R ds .returning W
 |[],W,_,h=>h W (aA.refl _ _)
 |d::ds,W,hm,h=>by
  obtain⟨D,rfl,hlo,hK⟩:=hm.mark d aj;obtain⟨hp1,hp2⟩:=FX.1 hm.nd;refine⟨aj,.inl ⟨D,_,rfl,sO hK,?_⟩⟩;have t1:=aA.putObj W D (.deferred none);refine abZ (lo:=lo) ds _ ⟨λe he=>?_,hp2⟩ λW' t=>h W' ?_
  ·obtain⟨E,e1,h2,h3⟩:=hm.mark e (by simp[he]);have hne:E≠D:=λx=>hp1 e he (by rw[e1,x]);exact⟨E,e1,h2,(t1.block E (nu.1 h3).1 hne).trans h3⟩
  ·exact(t1.mono λk hk=>by rw[hk];simp).trans (t.mono λk hk=>Cv _ hk)
theorem Marks.same{ds:List Deferred}(h:Marks lo ds W)(hk:∀D,({target:=.collected D,args:=#[] }:Deferred)∈ds→W'.heap[D]?=W.heap[D]?):Marks lo ds W':=
 ⟨λd hd=>by
  obtain⟨D,h1,h2,h3⟩:=h.mark d hd
  exact⟨D,h1,h2,(hk D (h1 ▸ hd)).trans h3⟩,h.nd⟩
theorem Marks.lt{ds:List Deferred}(h:Marks lo ds W){D:Nat}(hD:({target:=.collected D,args:=#[] }:Deferred)∈ds):lo≤D∧D<W.heap.size:=by
 obtain⟨E,h1,h2,h3⟩:=h.mark _ hD;simp only[aen,ZK,qZ]at h1;subst h1;exact⟨h2,(nu.1 h3).1⟩
def uN(B:Nat)(ds:List Deferred)(q:Nat):Prop:=q=B∨({ target:=.collected q,args:=#[] }:Deferred)∈ds
theorem agX{J:(Nat→Prop)→β→World→Prop}(hJ:E9 J)(O:Nat→Prop):E9 (λo s W=>J (λk=>o k∨O k) s W):=by
 intro own own' s A B hi ht hw
 exact hJ _ _ _ _ _ hi (ht.mono λk h=>.inl h) (λk h=>by
  rcases h with h|h
  ·rcases hw k h with h|h
   ·exact .inl (.inl h)
   ·exact .inr h
  ·exact .inl (.inr h))
def partT(x:aJ)(f:aQ)(st:Int)(term:Nat)(within:List Sp)(z:Int):List (aT×Int):=(RI within).map λp=>(kZ (aL x f) (bQ x f st z) z term p,z)
theorem adJ(x:aJ)(f:aQ)(st:Int)(term:Nat)(within:List Sp):bT x f st term within false=(iw f).flatMap (partT x f st term within):=by
 unfold bT partT;simp
theorem aAL(x:aJ)(f:aQ)(st:Int)(C:Nat)(cs:List Value)(term:Nat)(aw:Option Addr)(cw:Nat)(within:List Sp)(Bc Ba Bw Bt n:Nat)(w0 w:World)(hF:mI x f st C cs w0)(hx:fM x)(hf:qG x f)(cO:gG x f=false)(hl:(aL x f).length≤1000000)
  (hs0:w0.heap.size≤w.heap.size) (hk0:∀q,q<w0.heap.size→w.heap[q]?=w0.heap[q]?) (kW:Bx Bc [.pointer (some ⟨C,0,none⟩)] w) (hBa:Bx Ba [.bool false] w) (hBw:Bx Bw [.slice aw within.length cw] w) (uD:Bx Bt [term] w)
  (hWi:aC Shape.span w0 (.slice aw within.length cw) within) (hwb:∀s∈within,-100000≤s.1∧s.2≤100000∧s.1≤s.2) (hwl:within.length≤1000000) (Ns:(term:Int)≤x.ticks) :
  su prog n 113 #[.pointer (some ⟨Bc,0,none⟩),.pointer (some ⟨Ba,0,none⟩),.pointer (some ⟨Bw,0,none⟩),.pointer (some ⟨Bt,0,none⟩)] CU (λk=>k<w0.heap.size∨k=Bc∨k=Ba∨k=Bw∨k=Bt) (λys=>ys.map (·.2)=bT x f st term within false) 1000000000 w (λy W=>aC Shape.nod.list W y.1 y.2.1):=by
 rw[adJ];intro l J Jx W hW hJ hJx hY hj0;have rY:=U hF;have HP:=U (xY hx hf);have tV:=U (And.intro hx (And.intro hf cO));have HW0:Hid (∀q,q<w0.heap.size→W.heap[q]?=w0.heap[q]?):=U (λq hq=>(hW.block q ae).trans (hk0 q hq));have hN:w0.heap.size≤W.heap.size:=fK hs0 hW.size;have HC:=U (kW.next hW);have HA:=U (hBa.next hW);have cB:=U (hBw.next hW);have lH:=U (uD.next hW);have Cn:=U hWi;have Cm:=U hwb;clear hF hx hf cO kW hBa hBw uD hk0 hW hWi hwb;obtain⟨vz,hz1,hz2⟩:=rY.o.m.zeroes;obtain⟨az,cz,rfl,hc1,hc2⟩:=hz2.shape;obtain⟨_,_,ew,hw1,hw2⟩:=Cn.o.shape;cases ew;unfold maxLen at hc2 hw2;have HZ:=U hz2;clear hz2;have lC:=rY.o.m.bx.lt;have NU:=(rY.o.m.bx.cell 25).trans hz1;have SF:W.cell? ⟨C,25,none⟩=some (.slice az (iw f).length cz):=(iL (w:=w0) (w':=W) (a:=⟨C,25,none⟩) (HW0.o C lC)).trans NU;have lCW:C<W.heap.size:=ae;have p0:=HC.o.cell 0;have lc:=HC.o.lt;simp only[aK]at p0;have J2:Hid (∀z∈iw f,-200≤z∧z≤200):=U (λz hz=>ajy);have hzl:(iw f).length≤401:=amo;generalize iw f=zs at *;have HJ:=U hJ;have yN:=U hJx;have HY:=U hY;have hj0:=U hj0;clear hJ hJx hY;refine zb func113 rfl trivial ?_ rfl;simp only[ntmps113,jb,dS,fU,Nat.reduceAdd,Nat.reduceSub,kv,kw,kC,kz,fE,gB]
 have hfn:∀k,Fence.wide.fn k:=λ_=>trivial;have hdp:¬(Fence.wide.depth.isSome=true):=kL;gi_wp2_with fail;have X5:=U (Bx.new (W:=W) (t:=186) (vs:=[.func (.yield l) #[] #[]]) rfl);have hj1:=U (HJ.o _ (uN W.heap.size []) _ _ _ hj0.o (aA.alloc _ W (.cells #[.func (.yield l) #[] #[]] 186)) (λk e=>.inr (by rcases e with e|e;simp;omega;cases e)));have hr1:Hid (∀q,q<W.heap.size→(W.alloc (.cells #[.func (.yield l) #[] #[]] 186)).heap[q]?=W.heap[q]?):=U (λq hq=>DJ _ _ _ hq);have hs1:W.heap.size+1≤(W.alloc (.cells #[.func (.yield l) #[] #[]] 186)).heap.size:=aj;generalize W.alloc (.cells #[.func (.yield l) #[] #[]] 186)=W1 at *;clear SF p0 hj0;have hr2:=U (λq (h:q<w0.heap.size∨q=Bc∨q=Ba∨q=Bw∨q=Bt)=>hr1.o q ajq)
 refine wpIn_loop (λa' wr=>∃(k:Nat) (pre:List (Value×aT×Int)) (ds:List Deferred),(k≤zs.length∧Hid (pre.map (·.2)=(zs.take k).flatMap (partT x f st term within))∧Hid (J (uN W.heap.size ds) pre wr)∧Hid (∀q,(q<w0.heap.size∨q=Bc∨q=Ba∨q=Bw∨q=Bt)→wr.heap[q]?=W.heap[q]?)∧Hid (Bx W.heap.size [.func (.yield l) #[] #[]] wr)∧W.heap.size+1≤wr.heap.size∧Hid (Marks (W.heap.size+1) ds wr))∧∃us:Nat→Value,a'=Act.mk [.func (.yield l) #[] #[],.pointer (some ⟨Bc,0,none⟩),.pointer (some ⟨Ba,0,none⟩),.pointer (some ⟨Bw,0,none⟩),.pointer (some ⟨Bt,0,none⟩),.pointer (some ⟨W.heap.size,0,none⟩),undef,us 7,us 8,us 9,.pointer (some ⟨C,0,none⟩),.pointer (some ⟨C,0,none⟩),.pointer (some ⟨C,25,none⟩),.slice az zs.length cz,.int .i64 zs.length,.int .i64 k,us 16,us 17,us 18,us 19,us 20,us 21,us 22,us 23,us 24,us 25,us 26,us 27,us 28,us 29,us 30,us 31,us 32,us 33,us 34,us 35,us 36,us 37,us 38,us 39,us 40,us 41].toArray ds)
  (λa' _=>zs.length-(intOf (a'.tmps.getD 15 undef)).toNat) ?start ?round
 case start=>exact⟨0,[],[],⟨tX _,U rfl,hj1,hr2,X5,hs1,U Marks.nil⟩,Dc _ _ _ rfl⟩
 case round=>
  clear X5 hj1 hr1 hr2 hs1;rintro a' wr ⟨k,pre,ds,⟨hk,nG,gL,HR,X5,hsz,HM⟩,us,rfl⟩;by_cases hlt:k<zs.length
  ·have Am:Hid (∀q,q<w0.heap.size→wr.heap[q]?=w0.heap[q]?):=U (λq hq=>(HR.o q (.inl hq)).trans (HW0.o q hq));have vN:w0.heap.size≤wr.heap.size:=ae;have XC:=HC.o.block (HR.o Bc (.inr (.inl rfl))) ae;have XA:=HA.o.block (HR.o Ba (.inr (.inr (.inl rfl)))) ae;have XW:=cB.o.block (HR.o Bw (.inr (.inr (.inr (.inl rfl))))) ae;have XT:=lH.o.block (HR.o Bt (.inr (.inr (.inr (.inr rfl))))) ae;have c0:=XC.cell 0;have cl:=XC.lt;have f0:=X5.o.cell 0;have fl:=X5.o.lt;simp only[aK]at c0 f0;obtain⟨bz,oz,rfl,d1⟩:=(HZ.o.same vN Am.o).int_at hlt;have J3:=U (J2.o _ (eu hlt));have kR:Hid ((zs.take (k+1)).flatMap (partT x f st term within)=(zs.take k).flatMap (partT x f st term within)++partT x f st term within zs[k]):=U (by rw[jF hlt,mO];simp)
   have Fw:Hid ((zs.take (k+1)).flatMap (partT x f st term within) <+: zs.flatMap (partT x f st term within)):=U (by
    conv=>rhs;rw[←Zw (k+1) zs,mO]
    exact PZ _ _)
   generalize zs[k]=z at *;have i1:(0:Int)≤(k:Int):=ae;have i2:(k:Int)<zs.length:=ae;gi_wp2_with fail;have dQ:=Bl.alloc (aB wr.heap.size wr) (.cells #[z] 3);refine(jH jJ (aar x f st C cs z _ ((rY.o.same vN Am.o).below dQ) HP.o J3.o hl)).mono ?_;rintro e W5 ⟨v,rfl,hT,hb5⟩;have HT:=U hT;clear hT;obtain⟨at',vK,rfl,ht1,ht2⟩:=(kK HT.o).shape;have hbb:=Bl.call dQ hb5;have X7:=(Bx.new (W:=wr) (t:=3) (vs:=[.int .i64 z]) rfl).next hb5;have z0:=X7.cell 0;have zl:=X7.lt;simp only[aK]at z0;have bq:=Bl.alloc hbb (.cells #[.slice at' (bQ x f st z).length vK] 139);have a1:=(XA.next bq).cell 0;have ZV:=(XA.next bq).lt;have w1:=(XW.next bq).cell 0;have wl1:=(XW.next bq).lt;simp only[aK]at a1 w1;gi_wp2_with fail;refine(jH jJ (arz aw within.length cw _)).mono ?_;rintro e W6 ⟨rfl,hXs,hXn,hb6⟩;simp only[fH]at hXs hXn;have dD:=U (Bl.call bq hb6);have hn6:W5.heap.size+1+2≤W6.heap.size:=by have:=hXn.lt;omega
   have hn5:wr.heap.size+1≤W5.heap.size:=by have:=hb5.size;simp at this;omega
   obtain⟨b,o,Nh⟩:∃b o:Nat,0<within.length→aw=some ⟨b,o,none⟩:=by
    by_cases h0:0<within.length
    ·obtain⟨b,o,e,_⟩:=acH Cn.o h0;exact⟨b,o,λ_=>e⟩
    ·exact⟨0,0,λh=>absurd h h0⟩
   have qC:=U (arB (W5.heap.size+1) (W5.heap.size+1+1) (n-1) b o cw aw within W6 hXs hXn hw1 lD hwl Nh);have bD:=U (X7.next (Bl.call (Bl.alloc (aB _ _) (.cells #[.slice at' (bQ x f st z).length vK] 139)) hb6));have qD:=U ((Bx.new (W:=W5) (t:=139) (vs:=[.slice at' (bQ x f st z).length vK]) rfl).next hb6);have D6:Hid (Shape.nod.list.list.reads (λq=>wr.heap.size≤q∧q<W6.heap.size) W6 [.slice at' (bQ x f st z).length vK] (bQ x f st z)):=U (Shape.mono _ (Shape.below (Shape.mono _ HT.o (A':=λq=>wr.heap.size≤q∧q<W6.heap.size) λq hq h=>by simp at h;omega) (Bl.call (Bl.alloc (aB _ _) (.cells #[.slice at' (bQ x f st z).length vK] 139)) hb6)) λq _ h=>h);have G9:=U (agX HJ.o (uN W.heap.size ds));have Yr:=U (agX yN.o (uN W.heap.size ds))
   have Ha:Hid (∀q,uN W.heap.size ds q→W.heap.size≤q∧q<wr.heap.size):=U (λq h=>by
    rcases h with h|h
    ·omega
    ·have:=HM.o.lt h;omega)
   have G8:Hid (J (λq=>ry wr.heap.size W6.heap.size (λ_=>False) W6 q∨uN W.heap.size ds q) (pre++[]) W6):=U (HJ.o _ _ _ _ _ (by rw[ow];exact gL.o) (aA.of_below dD.o) (λq h=>by
    rcases h with⟨h|h,h2⟩|h
    ·exact .inr ⟨h.1,h2⟩
    ·exact h.elim
    ·exact .inl h))
   clear hXs hXn hb6 bq hbb hb5 dQ X7 z0 zl a1 ZV w1 wl1 HT f0 fl c0 cl XA XW d1;gi_wp2_with fail;refine(λ(h:∃A:(Value×List Sp)→Act,_)=>h.elim λ_ h=>h) ?_;apply Exists.intro
   refine E8 (gf:=174) (lb:=#[.pointer (some ⟨W5.heap.size+1,0,none⟩),.pointer (some ⟨W5.heap.size+1+1,0,none⟩)]) rfl (fo func174 aF rfl) qC.o (λq hq=>ae) (λ_=>rfl)
    (λown qM W'=>(∃pr2:List (Value×aT×Int),pr2.map (·.2)=qM.map (λc=>(kZ (aL x f) (bQ x f st z) z term c.2,z))∧J (λq=>ry wr.heap.size W6.heap.size own W' q∨uN W.heap.size ds q) (pre++pr2) W')∧W6.heap.size≤W'.heap.size∧∀q,((q<w0.heap.size∨q=Bc∨q=Ba∨q=Bw∨q=Bt)∨(wr.heap.size≤q∧q<W6.heap.size)∨uN W.heap.size ds q)→W'.heap[q]?=W6.heap[q]?) ?hI
    (λcd own qM W'=>cd=.ret∧(∃xs,Jx (λq=>ry wr.heap.size W6.heap.size own W' q∨uN W.heap.size ds q) xs W')∧W6.heap.size≤W'.heap.size∧∀q,uN W.heap.size ds q→W'.heap[q]?=W6.heap[q]?) ?hIx ?h0
    (λown qM c a1 W'=>(qM++[c] <+: pM b o within)∧((∃pr2:List (Value×aT×Int),pr2.map (·.2)=qM.map (λc=>(kZ (aL x f) (bQ x f st z) z term c.2,z))∧J (λq=>ry wr.heap.size W6.heap.size own W' q∨uN W.heap.size ds q) (pre++pr2) W')∧W6.heap.size≤W'.heap.size∧∀q,((q<w0.heap.size∨q=Bc∨q=Ba∨q=Bw∨q=Bt)∨(wr.heap.size≤q∧q<W6.heap.size)∨uN W.heap.size ds q)→W'.heap[q]?=W6.heap[q]?)∧a1=?w c) ?hAx ?assign ?body ?done ?stop
   case hI=>
    rintro own own' s A B ⟨⟨pr2,h1,h2⟩,h3,h4⟩ ho hs ht hw;refine⟨⟨pr2,h1,sw G9.o h2 ae ht hw⟩,fK h3 ht.size,λq hq=>(ht.block q ?_ ?_).trans (h4 q hq)⟩
    ·have:=Ha.o q;have:=HC.o.lt;have:=HA.o.lt;have:=cB.o.lt;have:=lH.o.lt;rcases hq with hq|hq|hq
     ·omega
     ·omega
     ·exact aFq
    ·have hq6:q<W6.heap.size:=by
      have:=HC.o.lt;have:=HA.o.lt;have:=cB.o.lt;have:=lH.o.lt;rcases hq with hq|hq|hq
      ·omega
      ·omega
      ·exact aFq
     intro h;rcases h with h|h|h
     ·exact aFr
     ·omega
     ·omega
   case hIx=>
    rintro cd own own' s A B ⟨h1,⟨xs,h2⟩,h3,h4⟩ ho hs ht hw;refine⟨h1,⟨xs,sw Yr.o h2 ae ht hw⟩,fK h3 ht.size,λq hq=>(ht.block q ?_ ?_).trans (h4 q hq)⟩
    ·exact aFq
    ·intro h;have:=Ha.o q hq;rcases h with h|h|h
     ·exact aFr
     ·omega
     ·omega
   case h0=>exact⟨⟨[],rfl,G8.o⟩,aV _,λ_ _=>rfl⟩
   case hAx=>
    rintro own qM c a1 A B ⟨h0,⟨⟨pr2,h1,h2⟩,h3,h4⟩,h5⟩ ho ht hlt2 hsz2;refine⟨h0,⟨⟨pr2,h1,sw G9.o h2 ae (ht.mono λk h=>.inr (.inr h)) (λk h=>.inl h)⟩,ae,λq hq=>(ht.block q ?_ ?_).trans (h4 q hq)⟩,h5⟩
    ·have:=HC.o.lt;have:=HA.o.lt;have:=cB.o.lt;have:=lH.o.lt;rcases hq with hq|hq|hq
     ·omega
     ·omega
     ·exact aFq
    ·have:=HC.o.lt;have:=HA.o.lt;have:=cB.o.lt;have:=lH.o.lt;rcases hq with hq|hq|hq
     ·omega
     ·omega
     ·exact aFq
   case assign=>
    rintro ll own qM c W' hi' ho hs hlt2 ⟨_,rfl,hpre⟩ _ _;have HI:=U hi';have Hg:=U hpre;clear hi' hpre;unfold aax;gi_wp2;exact⟨fG.refl _ _ _ _,Hg.o,HI.o,rfl⟩
   case body=>
    rintro ll own qM c a1 W' ⟨h0,⟨⟨pr2,h1,h2⟩,h3,h4⟩,rfl⟩ ho hs hlt2 _
    have hcj:qM.length<iV within∧c=Im b o within qM.length:=by
     obtain⟨r,hr⟩:=h0;have e1:(pM b o within)[qM.length]?=some c:=by rw[←hr];simp
     unfold pM at e1;rw[Ct]at e1;by_cases hq:qM.length<iV within
     ·rw[PW hq]at e1;exact⟨hq,by simpa using e1.symm⟩
     ·rw[wT Sk]at e1;cases e1
    obtain⟨hcn,hcv⟩:=hcj;have Fg:Hid (∀q,(q<w0.heap.size∨q=Bc∨q=Ba∨q=Bw∨q=Bt)→W'.heap[q]?=W.heap[q]?):=U (λq hq=>(h4 q (.inl hq)).trans ((dD.o.block q ajq).trans (HR.o q hq)));have jL:=U (λq (hq:wr.heap.size≤q∧q<W6.heap.size)=>h4 q (.inr (.inl hq)));have HEW:Hid (∀q,q<w0.heap.size→W'.heap[q]?=w0.heap[q]?):=U (λq hq=>(Fg.o q (.inl hq)).trans (HW0.o q hq));have KC:w0.heap.size≤W'.heap.size:=ae;have Y5:=(X5.o.next dD.o).block (h4 _ (.inr (.inr (.inl rfl)))) h3;have YC:=HC.o.block (Fg.o Bc (.inr (.inl rfl))) ae;have YT:=lH.o.block (Fg.o Bt (.inr (.inr (.inr (.inr rfl))))) ae;have Y7:=bD.o.block (jL.o _ ⟨ae,ae⟩) h3;have Y8:=qD.o.block (jL.o _ ⟨ae,ae⟩) h3;have FH:Hid (aC Shape.nod.list W' (.slice at' (bQ x f st z).length vK) (bQ x f st z)):=U (kK (Shape.keep _ D6.o (w':=W') ⟨h3,λb hb _=>jL.o b hb⟩));have Fj:=U (rY.o.same KC HEW.o)
    have DY:Hid (aC Shape.span W' c.1 (rM within qM.length)):=U (by
     have h1:=Cn.o.same KC HEW.o;rw[Nh (by unfold iV at hcn;omega)]at h1;rw[hcv]
     exact axZ h1 hcn)
    have tF:Hid (c.2=rM within qM.length):=U (by rw[hcv];rfl);have HPB:Hid (∀s∈rM within qM.length,-100000≤s.1∧s.2≤100000∧s.1≤s.2):=U (λs hs=>Cm.o s (List.mem_of_mem_drop (J8 hs)));have au6:(rM within qM.length).length≤1000000:=by rw[RH];omega
    obtain⟨v6,s1,s2⟩:=Fj.o.list;have yP:=U s2;have hLen:(bQ x f st z).length=(x.ticks+1).toNat:=Sv _ _ _ _ _
    have ajb:(aN (bQ x f st z) term).length=(aL x f).length:=by
     unfold bQ;rw[EX _ _ _ _ _ term ae,fC]
    have Ce:=U ((Z6 tV.o.1 tV.o.2.1 tV.o.2.2 st z J3.o).trkB ae);have gz:Hid (∀y∈aL x f,-8≤y.2.2∧y.2.2≤8):=U (λy hy=>ajm);have hkl:term<(bQ x f st z).length:=ae;have ky:=U (λ(w:World) (hb:BL W' w)=>ar0 C cs v6 _ c.1 (aL x f) (bQ x f st z) term z (rM within qM.length) w (Fj.o.m.bx.next hb) s1 (yP.o.below hb) (FH.o.below hb) Ce.o hkl ajb (DY.o.below hb) HPB.o au6 J3.o gz.o);clear s1 s2 hLen ajb hkl
    have JL:Hid (∀v:Value,∃ys:List (Value×aT×Int),ys.map (·.2)=zs.flatMap (partT x f st term within)∧((pre++pr2)++[((v,kZ (aL x f) (bQ x f st z) z term (rM within qM.length),z):Value×aT×Int)]) <+: ys):=U (λv=>acC (by
     rw[iT,nG.o,h1,yS];refine List.IsPrefix.trans ?_ Fw.o;rw[kR.o];refine(List.prefix_append_right_inj _).2 ?_;have e1:=h0.map (λc:Value×List Sp=>(kZ (aL x f) (bQ x f st z) z term c.2,z));rw[iT,oG,Av,tF.o]at e1
     have e2:(pM b o within).map (λc:Value×List Sp=>(kZ (aL x f) (bQ x f st z) z term c.2,z))=partT x f st term within z:=by
      unfold partT pM;rw[RJ,Au,Au];rfl
     rw[e2]at e1
     exact e1))
    have jm:Hid ((pre++pr2).length<1000000000):=U (by
     have e1:=gQ List.length nG.o;have e2:=gQ List.length h1
     have e3:∀l:List Int,(l.flatMap (partT x f st term within)).length=l.length*iV within:=by
      intro l
      induction l with
      |nil=>simp
      |cons a l ih=>rw[List.flatMap_cons,List.length_append,ih];unfold partT;rw[RJ];simp[Nat.succ_mul];omega
     rw[e3,fC,oF]at e1;rw[fC,fC]at e2;have e4:iV within≤20000:=by unfold iV;omega
     have e5:min k zs.length*iV within≤401*20000:=Ux ae e4
     rw[dn];omega)
    have mh:Hid ((pr2.map (·.2))=qM.map (λc=>(kZ (aL x f) (bQ x f st z) z term c.2,z))):=U h1;have HJ2:=U h2;have HOW:=U ho;have H4:=U h4;have q5:=Y5.cell 0;have l5:=Y5.lt;have qc:=YC.cell 0;have lcc:=YC.lt;have qt:=YT.cell 0;have lt':=YT.lt;have q7:=Y7.cell 0;have l7:=Y7.lt;have q8:=Y8.cell 0;have l8:=Y8.lt;simp only[aK]at q5 qc qt q7 q8;clear h0 h1 h2 h4 ho hcv Y5 YC YT Y7 Y8;gi_wp2;refine Xp [8] [6,8] 1 [] [(0,[0,1,2,3,4,5,7],6),(1,[],8)] [9] [] [(0,[_,_,_,_,_,_,_],6,_),(1,[],8,_)] [_] ?_;refine aH (Xu ?_)
    (repeat(go_big_quiet_step (fail)));refine aH ?_
    intro w7 bV;gi_wp2_with fail;refine(jH (E5 _) (ky.o w7 bV)).mono ?_;rintro e w8 ⟨v,rfl,hv,hb78⟩;have bq:=Bl.call bV hb78;obtain⟨av,cv,rfl,hv1,hv2⟩:=hv.shape;have Yq:=sw G9.o HJ2.o ae (aA.of_below bq) (λk h=>.inl h);have Ak:=U hv;clear hv;obtain⟨OT,hOT⟩:∃t,Hid (kZ (aL x f) (bQ x f st z) z term (rM within qM.length)=t):=⟨_,U rfl⟩;rw[hOT.o]at Ak JL ⊢;obtain⟨fn,tmps,assign,body,hy,hR⟩:=HY.o _ (pre++pr2) (.slice av OT.length cv,OT,z) w8 Yq jm.o (JL.o _) Ak.o;dsimp only[CU]at hy;have lU:=bq.size
    have O5:Hid (∀q,((q<w0.heap.size∨q=Bc∨q=Ba∨q=Bw∨q=Bt)∨(wr.heap.size≤q∧q<W6.heap.size+2)∨uN W.heap.size ds q∨own q)→q<W'.heap.size):=U (λq hq=>by
     have:=HC.o.lt;have:=HA.o.lt;have:=cB.o.lt;have:=lH.o.lt;rcases hq with hq|hq|hq|hq
     ·omega
     ·omega
     ·exact aFq
     ·exact(HOW.o q hq).2)
    have HKK:Hid (∀q,((q<w0.heap.size∨q=Bc∨q=Ba∨q=Bw∨q=Bt)∨(wr.heap.size≤q∧q<W6.heap.size+2)∨uN W.heap.size ds q∨own q)→((q<w0.heap.size∨q=Bc∨q=Ba∨q=Bw∨q=Bt)∨ry wr.heap.size W6.heap.size own w8 q∨uN W.heap.size ds q)):=U (λq hq=>by
     have hl:=O5.o q hq;rcases hq with hq|hq|hq|hq
     ·exact .inl hq
     ·exact .inr (.inl ⟨.inl hq,ae⟩)
     ·exact .inr (.inr hq)
     ·exact .inr (.inl ⟨.inr hq,ae⟩))
    gi_wp2;refine dZ bq (aB7 ?_);gi_wp2_with fail;refine(acI hR).mono ?_;rintro e UI (⟨rfl,hJ3,hs3,hk3⟩|⟨rfl,hJ3,hs3,hk3⟩)
    ·have Cc:=U (And.intro (fK lU hs3) (And.intro (λq hq=>(hk3 q (HKK.o q hq)).trans (bq.block q (O5.o q hq))) hJ3));clear hJ3 hk3 hs3 hR hy Yq bq hb78 bV;gi_wp2;refine bS _ rfl (SV ?_)
     (repeat(go_big_quiet_step (fail)));refine aH ?_
     intro nq;gi_wp2_with fail;obtain⟨g1,g2,g3⟩:=Cc.o;have g4:W'.heap.size≤(UI.drewN nq).heap.size:=g1;refine⟨⟨g4,λq hq=>g2 q ?_⟩,⟨pr2++[(.slice av OT.length cv,OT,z)],?_,?_⟩,ae,λq hq=>(g2 q ?_).trans (H4.o q hq)⟩
     ·rcases hq with(h|h)|h|h|h
      ·exact .inr (.inl ae)
      ·exact .inr (.inl ae)
      ·exact .inr (.inr (.inr h))
      ·exact .inr (.inl ae)
      ·exact .inr (.inl ae)
     rotate_left
     ·rw[←yS];exact sw G9.o (MP G9.o (W:=w8) (W':=UI) g3 ae (λk h=>by have:=(HOW.o k h).2;omega)) ae (aA.drewN _ _ nq) (λk h=>.inl h)
     ·rcases hq with h|h|h
      ·exact .inl h
      ·exact .inr (.inl ae)
      ·exact .inr (.inr (.inl h))
     ·rw[iT,iT,mh.o,oG,Av,oG,Av,tF.o,hOT.o]
    ·have Cc:=U (And.intro (fK lU hs3) (And.intro (λq hq=>(hk3 q (HKK.o q hq)).trans (bq.block q (O5.o q hq))) hJ3));clear hJ3 hk3 hs3 hR hy Yq bq hb78 bV;gi_wp2;refine bS _ rfl (SV ?_)
     (repeat(go_big_quiet_step (fail)));refine aH ?_
     intro nq;gi_wp2_with fail;obtain⟨g1,g2,g3⟩:=Cc.o;have g4:W'.heap.size≤(UI.drewN nq).heap.size:=g1;refine⟨⟨g4,λq hq=>g2 q ?_⟩,rfl,⟨_,sw Yr.o (MP Yr.o (W:=w8) (W':=UI) g3 ae (λk h=>by have:=(HOW.o k h).2;omega)) ae (aA.drewN _ _ nq) (λk h=>.inl h)⟩,ae,λq hq=>(g2 q (.inr (.inr (.inl hq)))).trans (H4.o q (.inr (.inr hq)))⟩;rcases hq with(h|h)|h|h|h
     ·exact .inr (.inl ae)
     ·exact .inr (.inl ae)
     ·exact .inr (.inr (.inr h))
     ·exact .inr (.inl ae)
     ·exact .inr (.inl ae)
   case done=>
    rintro own ls W' rfl ⟨⟨pr2,h1,h2⟩,h3,h4⟩ ho hs hK
    have e2:(pM b o within).map (λc:Value×List Sp=>(kZ (aL x f) (bQ x f st z) z term c.2,z))=partT x f st term within z:=by
     unfold partT pM;rw[RJ,Au,Au];rfl
    have Pg:Hid ((pre++pr2).map (·.2)=(zs.take (k+1)).flatMap (partT x f st term within)):=U (by rw[iT,nG.o,h1,e2,kR.o])
    have HJN:Hid (J (uN W.heap.size ({ target:=.collected W6.heap.size,args:=#[] }::ds)) (pre++pr2) W'):=U (HJ.o _ _ _ _ _ h2 (aA.refl _ _) (λq hq=>by
     rcases hq with hq|hq
     ·exact .inl (.inr (.inl hq))
     ·rcases mP.1 hq with hq|hq
      ·simp only[aen,ZK,qZ]at hq;exact .inl (.inl ⟨.inl ⟨ae,ae⟩,ae⟩)
      ·exact .inl (.inr (.inr hq))))
    have HRN:Hid (∀q,(q<w0.heap.size∨q=Bc∨q=Ba∨q=Bw∨q=Bt)→W'.heap[q]?=W.heap[q]?):=U (λq hq=>(h4 q (.inl hq)).trans ((dD.o.block q ajq).trans (HR.o q hq)));have PD:=U ((X5.o.next dD.o).block (h4 _ (.inr (.inr (.inl rfl)))) h3);have Yx:=U (HM.o.cons (D:=W6.heap.size) ae ae ((HM.o.below dD.o).same λD hD=>h4 D (.inr (.inr (.inr hD)))) hK);clear h1 h2 h4 ho hK e2;gi_wp2_with fail;refine⟨⟨k+1,pre++pr2,_,⟨ae,Pg,HJN,HRN,PD,ae,Yx⟩,Dc _ _ _ rfl⟩,?_⟩;simp[intOf];omega
   case stop=>
    rintro cd own ls W' ⟨rfl,⟨xs,h2⟩,h3,h4⟩ ho hs hK;have Yx:=U (HM.o.cons (D:=W6.heap.size) ae ae ((HM.o.below dD.o).same λD hD=>h4 D (.inr hD)) hK);have O0:=U h2;clear h2 h4 ho hK;gi_wp2_with fail;refine abZ (lo:=W.heap.size+1) _ _ Yx.o (λW' t=>?_);refine⟨_,Jf rfl _ _ _,⟨_,rfl⟩,_,xs,.inr (yN.o _ _ _ _ _ O0.o (t.mono λq h=>?_) (λq h=>.inl h))⟩;rcases mP.1 h with h|h
    ·simp only[aen,ZK,qZ]at h;exact .inl ⟨.inl ⟨ae,ae⟩,ae⟩
    ·exact .inr (.inr h)
  ·obtain rfl:k=zs.length:=ae;gi_wp2_with fail;refine abZ (lo:=W.heap.size+1) ds _ HM.o (λW' t=>?_);refine⟨_,Jf rfl _ _ _,⟨_,rfl⟩,uN W.heap.size ds,pre,.inl ⟨?_,HJ.o _ _ _ _ _ gL.o (t.mono λq h=>.inr h) (λq h=>.inl h)⟩⟩;show List.map _ pre=_
   rw[nG.o,jc]
end
theorem axY(h:bF L)(j:Nat):bF (rM L j):=
 ⟨λs hs=>h.1 s (List.mem_of_mem_drop (J8 hs)),(h.2.sublist (List.drop_sublist _ _)).sublist (List.take_sublist _ _)⟩
structure Ib(x:aJ)(f:aQ)(p:aT×Int):Prop where
 ok:ib p.1
 len:p.1.length=(x.ticks+1).toNat
 stg:∀k,k<(x.ticks+1).toNat→(aN p.1 k).length=(aL x f).length
 zero:-200≤p.2∧p.2≤200
 nods:wV 60 p.1
theorem GL(hx:fM x)(hf:qG x f)(cO:gG x f=false){st:Int}{term:Nat}{within:List Sp}{any:Bool}(hw:any=false→bF within){p:aT×Int}(h:p∈bT x f st term within any):Ib x f p:=by
 have hP:=xY hx hf;have hz:∀z∈iw f,-200≤z∧z≤200:=λz hz=>by have:=Xy hz;have:=hP.zero;omega
 have hst:∀z k,k<(x.ticks+1).toNat→(aN (bQ x f st z) k).length=(aL x f).length:=λz k hk=>by
  unfold bQ;rw[EX _ _ _ _ _ k hk,List.length_map]
 cases any
 ·rw[adJ]at h;obtain⟨z,hz1,h⟩:=iB.1 h;unfold partT at h;rw[RJ]at h;obtain⟨L,hL,rfl⟩:=dz.1 h;obtain⟨j,_,rfl⟩:=dz.1 hL;have hn:=axY (hw rfl) j;have hok:=axE (Z6 hx hf cO st z (hz z hz1)) (aL x f) z term hn (c:=50) (by rw[RH];omega);refine⟨hok.trkB ae,?_,λk hk=>?_,hz z hz1,hok.mono ae⟩
  ·unfold kZ;rw[List.length_set];exact Sv _ _ _ _ _
  ·dsimp only;rw[axD];exact hst z k hk
 ·rw[WY]at h;obtain⟨z,hz1,rfl⟩:=dz.1 h;have hok:=Z6 hx hf cO st z (hz z hz1);exact⟨hok.trkB ae,Sv _ _ _ _ _,λk hk=>hst z k hk,hz z hz1,hok.mono ae⟩
theorem anp(hP:GU x f)(st:Int)(term:Nat)(within:List Sp)(any:Bool):(bT x f st term within any).length≤401*(iV within+1):=by
 have hz:(iw f).length≤401:=by rw[Xx];have:=hP.zero;omega
 cases any
 ·rw[adJ]
  have e3:∀l:List Int,(l.flatMap (partT x f st term within)).length=l.length*iV within:=by
   intro l
   induction l with
   |nil=>simp
   |cons a l ih=>rw[List.flatMap_cons,List.length_append,ih];unfold partT;rw[RJ];simp[Nat.succ_mul];omega
  rw[e3];exact Ux hz ae
 ·rw[WY,fC];have:401*1≤401*(iV within+1):=Uy _ ae;omega
theorem ZX(hss:∀y∈ss,-8≤y.2.2∧y.2.2≤8){p:aT×Int}(hp:ib p.1)(hz:-200≤p.2∧p.2≤200)(k:Nat):∀s∈iF ss k p,-208≤s.1∧s.2≤12208:=by
 unfold iF;refine NJ λs hs=>?_;unfold yA at hs;obtain⟨n,hn,hs⟩:=iB.1 hs;have hn:=fD.1 hn;have ho:=hss _ (eu hn);have e:ss.getD n (0,0,0)=ss[n]:=by simp[bN,hn]
 unfold gF at hs;obtain⟨u,hu,rfl⟩:=dz.1 hs;rw[e]
 have hb:0≤u.1∧u.2≤12000:=by
  have h1:=aqt (t:=p.1) hp.trk k n
  exact V9 h1.1 (λv hv=>by
   by_cases hk:n<(aN p.1 k).length
   ·have e2:aP (iD p.1 k) n=inter (aP (iG p.1 k) n) (aP (nK p.1 (p.1.length-1-k)) n):=by
     rw[iD];simp[aP,bN,hk]
    rw[e2]at hv;obtain⟨u,hu,h5,h6⟩:=aiq hp.trk (Bd.1 hv).1;have:=hp.al k n u hu;omega
   ·rw[aP,bN,wT (by rw[Qr];omega)]at hv
    exact absurd hv (gU _)) u hu
 dsimp only;omega
theorem at_len(hss:∀y∈ss,-8≤y.2.2∧y.2.2≤8){p:aT×Int}(hp:ib p.1)(hz:-200≤p.2∧p.2≤200)(k:Nat):(iF ss k p).length≤12500:=by
 have:=zC (l:=iF ss k p) (oQ _) (ZX hss hp hz k) ae;omega
structure qA(T:aT)(a b:Nat)(c:Nat→Nat×Int):Prop where
 al:∀k,a≤k→k≤b→Mem (c k).2 (aI (aN T k) (c k).1).1
 ed:∀k,a≤k→k<b→∃ch,(((c (k+1)).1:Int),ch)∈(aI (aN T k) (c k).1).2∧ch.1≤(c (k+1)).2-(c k).2∧(c (k+1)).2-(c k).2≤ch.2
section
variable {T:aT} (ht:Ia T)
include ht
theorem QD:∀(k n:Nat) (v:Int),Mem v (aP (iG T k) n)↔∃c,qA T 0 k c∧c k=(n,v)
 |0,n,v=>by
  rw[iG,KV];constructor
  ·intro h;exact⟨λ_=>(n,v),⟨λk h1 h2=>by obtain rfl:k=0:=(by omega);exact h,λk _ h2=>by omega⟩,rfl⟩
  ·rintro⟨c,h,e⟩;have:=h.al 0 ae ae;rw[e]at this;exact this
 |k+1,n,v=>by
  rw[ais ht];constructor
  ·rintro⟨h1,m,ch,h2,u,h3,h4,h5⟩;obtain⟨c,hc,e⟩:=(QD k m u).1 h3;refine⟨λj=>if j=k+1 then(n,v)else c j,⟨λj h6 h7=>?_,λj h6 h7=>?_⟩,aj⟩
   ·by_cases ej:j=k+1
    ·subst ej;simpa using h1
    ·rw[aD ej];exact hc.al j h6 ae
   ·by_cases ej:j=k
    ·subst ej;rw[aG rfl,aD (show ¬j=j+1 from ae),e];exact⟨ch,h2,h4,h5⟩
    ·rw[aD (show ¬j+1=k+1 from ae),aD (show ¬j=k+1 from ae)];exact hc.ed j h6 ae
  ·rintro⟨c,hc,e⟩;have h1:=hc.al (k+1) ae ae;obtain⟨ch,h2,h3,h4⟩:=hc.ed k ae ae;rw[e]at h1 h2 h3 h4;exact⟨h1,(c k).1,ch,h2,(c k).2,(QD k (c k).1 (c k).2).2 ⟨c,⟨λj a b=>hc.al j a ae,λj a b=>hc.ed j a ae⟩,rfl⟩,h3,h4⟩
theorem Z0:∀(j n:Nat) (v:Int),j<T.length→(Mem v (aP (nK T j) n)↔∃c,qA T (T.length-1-j) (T.length-1) c∧c (T.length-1-j)=(n,v))
 |0,n,v,hj=>by
  rw[nK,KV];constructor
  ·intro h;exact⟨λ_=>(n,v),⟨λk h1 h2=>by obtain rfl:k=T.length-1:=(by omega);exact h,λk h1 h2=>by omega⟩,rfl⟩
  ·rintro⟨c,h,e⟩;have:=h.al (T.length-1) ae ae;have e':c (T.length-1)=(n,v):=e;rw[e']at this;exact this
 |j+1,n,v,hj=>by
  rw[aq4 ht ae,show T.length-2-j=T.length-1-(j+1)from ae];have hs:T.length-1-(j+1)+1=T.length-1-j:=ae;constructor
  ·rintro⟨h1,e,h2,u,h3,h4,h5⟩;obtain⟨c,hc,ec⟩:=(Z0 j e.1.toNat u ae).1 h3;have he:=(ht.ed _ _ e h2).1;refine⟨λi=>if i=T.length-1-(j+1)then(n,v)else c i,⟨λi h6 h7=>?_,λi h6 h7=>?_⟩,aj⟩
   ·by_cases ei:i=T.length-1-(j+1)
    ·subst ei;simpa using h1
    ·rw[aD ei];exact hc.al i ae h7
   ·by_cases ei:i=T.length-1-(j+1)
    ·subst ei;rw[aD (show ¬T.length-1-(j+1)+1=T.length-1-(j+1)from ae),aG rfl,hs,ec];refine⟨e.2,?_,h4,h5⟩;rw[show((e.1.toNat:Nat):Int)=e.1 from ae];exact h2
    ·rw[aD (show ¬i+1=T.length-1-(j+1)from ae),aD ei];exact hc.ed i ae h7
  ·rintro⟨c,hc,e⟩;have h1:=hc.al (T.length-1-(j+1)) ae ae;obtain⟨ch,h2,h3,h4⟩:=hc.ed (T.length-1-(j+1)) ae ae;rw[hs]at h2 h3 h4;rw[e]at h1 h2 h3 h4;refine⟨h1,_,h2,(c (T.length-1-j)).2,(Z0 j _ _ ae).2 ⟨c,⟨λi a b=>hc.al i ae b,λi a b=>hc.ed i ae b⟩,?_⟩,h3,h4⟩;simp
theorem ag4(hk:k<T.length)(n:Nat)(v:Int):Mem v (aP (iD T k) n)↔∃c,qA T 0 (T.length-1) c∧c k=(n,v):=by
 by_cases hn:n<(aN T k).length
 ·unfold iD;rw[Bh hn,Bd,QD ht,Z0 ht _ _ _ ae,show T.length-1-(T.length-1-k)=k from ae];constructor
  ·rintro⟨⟨c,hc,e⟩,d,hd,e2⟩;refine⟨λi=>if i≤k then c i else d i,⟨λi h6 h7=>?_,λi h6 h7=>?_⟩,Sc⟩
   ·by_cases hi:i≤k
    ·rw[aG hi];exact hc.al i h6 hi
    ·rw[aD hi];exact hd.al i ae h7
   ·by_cases hi:i<k
    ·rw[aG (show i+1≤k from ae),aG (show i≤k from ae)];exact hc.ed i h6 hi
    ·have:=hd.ed i ae h7;rw[aD (show ¬i+1≤k from ae)];by_cases h:i≤k
     ·obtain rfl:i=k:=ae;rw[aG h,e,←e2];exact this
     ·rw[aD h];exact this
  ·rintro⟨c,hc,e⟩;exact⟨⟨c,⟨λi a b=>hc.al i a ae,λi a b=>hc.ed i a ae⟩,e⟩,c,⟨λi a b=>hc.al i ae b,λi a b=>hc.ed i ae b⟩,e⟩
 ·unfold iD;rw[I4 ae];refine⟨λh=>absurd h (gU _),?_⟩;rintro⟨c,hc,e⟩;have:=hc.al k ae ae;rw[e,lW ae]at this;exact absurd this (gU _)
end
theorem acb{n d:Int}:Mem n (gF l d)↔Mem (n-d) l:=by
 unfold gF Mem;constructor
 ·rintro⟨s,hs,h1,h2⟩;obtain⟨t,ht,rfl⟩:=dz.1 hs;exact⟨t,ht,by dsimp only at h1;omega,by dsimp only at h2;omega⟩
 ·rintro⟨t,ht,h1,h2⟩;exact⟨_,dz.2 ⟨t,ht,rfl⟩,ic,ic⟩
def jS(ss:List dx)(zero:Int)(c:Nat→Nat×Int)(k:Nat):Int:=(c k).2+mY ss (c k).1+zero
theorem V5(ht:Ia T)(hk:k<T.length)(hs:(aN T k).length=ss.length)(zero v:Int):Mem v (yA ss (iD T k) zero)↔∃c,qA T 0 (T.length-1) c∧jS ss zero c k=v:=by
 unfold yA;rw[Ry];constructor
 ·rintro⟨n,hn,h⟩;rw[acb,ag4 ht hk]at h;obtain⟨c,hc,e⟩:=h;refine⟨c,hc,?_⟩;unfold jS mY;rw[e];dsimp only;omega
 ·rintro⟨c,hc,rfl⟩;refine⟨(c k).1,fD.2 ?_,?_⟩
  ·by_cases h:(c k).1<ss.length
   ·exact h
   ·have:=hc.al k ae ae;rw[lW ae]at this;exact absurd this (gU _)
  ·rw[acb,ag4 ht hk];refine⟨c,hc,?_⟩;have:jS ss zero c k-((ss.getD (c k).1 (0,0,0)).2.2+zero)=(c k).2:=by unfold jS mY;omega
   rw[this]
theorem alm{zero:Int}{tick:Nat}{n:Nat}(ht:tick<T.length):aI (aN (kZ ss T zero tick L) k) n=if k=tick∧n<(aN T tick).length then(inter (aI (aN T tick) n).1 (gF L (-(mY ss n)-zero)),(aI (aN T tick) n).2)else aI (aN T k) n:=by
 unfold kZ;rw[EW];by_cases e:tick=k
 ·subst e;rw[aG ⟨rfl,ht⟩];by_cases hn:n<(aN T tick).length
  ·rw[aG ⟨rfl,hn⟩];unfold aI;rw[bN,Ct,PW hn];rfl
  ·rw[aD (λh=>hn h.2)];rw[lW bC,lW ae]
 ·rw[aD (λh=>e h.1),aD (λh=>e h.1.symm)]
theorem aao{zero:Int}{tick:Nat}(ht:tick<T.length)(c:Nat→Nat×Int):qA (kZ ss T zero tick L) 0 (T.length-1) c↔qA T 0 (T.length-1) c∧Mem (jS ss zero c tick) L:=by
 have key:∀k,Mem (c k).2 (aI (aN (kZ ss T zero tick L) k) (c k).1).1↔Mem (c k).2 (aI (aN T k) (c k).1).1∧(k=tick→Mem (jS ss zero c tick) L):=by
  intro k;rw[alm ht];by_cases e:k=tick
  ·subst e;by_cases hn:(c k).1<(aN T k).length
   ·rw[aG ⟨rfl,hn⟩,Bd,acb];have:(c k).2-(-(mY ss (c k).1)-zero)=jS ss zero c k:=by unfold jS;omega
    rw[this];exact⟨λh=>⟨h.1,λ_=>h.2⟩,λh=>⟨h.1,h.2 rfl⟩⟩
   ·rw[aD (λh=>hn h.2),lW ae];exact⟨λh=>absurd h (gU _),λh=>absurd h.1 (gU _)⟩
  ·rw[aD (λh=>e h.1)];exact⟨λh=>⟨h,λh=>absurd h e⟩,λh=>h.1⟩
 have Gr:∀k,(aI (aN (kZ ss T zero tick L) k) (c k).1).2=(aI (aN T k) (c k).1).2:=by
  intro k;rw[alm ht];by_cases e:k=tick∧(c k).1<(aN T tick).length
  ·rw[aG e];rw[e.1]
  ·rw[aD e]
 constructor
 ·intro h;exact⟨⟨λk a b=>((key k).1 (h.al k a b)).1,λk a b=>by have:=h.ed k a b;rw[Gr]at this;exact this⟩,((key tick).1 (h.al tick ae ae)).2 rfl⟩
 ·rintro⟨h,hm⟩;exact⟨λk a b=>(key k).2 ⟨h.al k a b,λ_=>hm⟩,λk a b=>by rw[Gr];exact h.ed k a b⟩
theorem Wl{v:Int}:Mem v L↔∃p∈RI L,Mem v p:=by
 have key:∀(n:Nat) (L:List Sp),L.length≤n→(Mem v L↔∃p∈chunks 50 n L,Mem v p):=by
  intro n
  induction n with
  |zero=>
   intro L h;obtain rfl:L=[]:=List.length_eq_zero_iff.1 ae;simp[chunks,gU]
  |succ n ih=>
   intro L h;unfold chunks;by_cases e:L=[]
   ·rw[aG e,e];simp[gU]
   ·have hl:0<L.length:=agl.2 e;rw[aD e];have h1:=ih (L.drop 50) bC;have h2:Mem v L↔Mem v (L.take 50)∨Mem v (L.drop 50):=by rw[←NA,Zw]
    rw[h2,h1];simp
 exact key _ _ (aV _)
section
variable {x:aJ} {f:aQ} (hx:fM x) (hf:qG x f) (cO:gG x f=false)
include hx hf cO
theorem UW(st:Int)(hz:z∈iw f):Ib x f (bQ x f st z,z):=
 GL hx hf cO (st:=st) (term:=0) (within:=[]) (any:=true) (λh=>ze) (by unfold bT;exact List.mem_flatMap.2 ⟨z,hz,aj⟩)
theorem I5{st:Int}{term:Nat}{within:List Sp}(hk:(k:Int)≤x.ticks)(v:Int):Mem v (pV (aL x f) (bT x f st term within true) k)↔∃z∈iw f,∃c,qA (bQ x f st z) 0 x.ticks.toNat c∧jS (aL x f) z c k=v:=by
 unfold pV bT;rw[pX,Ry];constructor
 ·rintro⟨p,hp,h⟩;obtain⟨z,hz,hp⟩:=iB.1 hp;have e:p=(bQ x f st z,z):=Oh;subst e;have hT:=UW hx hf cO st hz;have hlen:=hT.len;dsimp only at hlen;unfold iF at h;rw[pX,V5 hT.ok.trk ic (hT.stg k ae)]at h;dsimp only at h;rw[show(bQ x f st z).length-1=x.ticks.toNat from ae]at h;exact⟨z,hz,h⟩
 ·rintro⟨z,hz,h⟩;refine⟨(bQ x f st z,z),iB.2 ⟨z,hz,aj⟩,?_⟩;have hT:=UW hx hf cO st hz;have hlen:=hT.len;dsimp only at hlen;unfold iF;rw[pX,V5 hT.ok.trk ic (hT.stg k ae)];dsimp only;rw[show(bQ x f st z).length-1=x.ticks.toNat from ae];exact h
theorem Rz{st:Int}{term:Nat}{within:List Sp}(hw:bF within)(ht:(term:Int)≤x.ticks)(hk:(k:Int)≤x.ticks)(v:Int):Mem v (pV (aL x f) (bT x f st term within false) k)↔∃z∈iw f,∃c,qA (bQ x f st z) 0 x.ticks.toNat c∧Mem (jS (aL x f) z c term) within∧jS (aL x f) z c k=v:=by
 have hone:∀z∈iw f,∀p∈RI within,(Mem v (iF (aL x f) k (kZ (aL x f) (bQ x f st z) z term p,z))↔∃c,qA (bQ x f st z) 0 x.ticks.toNat c∧Mem (jS (aL x f) z c term) p∧jS (aL x f) z c k=v):=by
  intro z hz p hp;have hT0:=UW hx hf cO st hz
  have hT:=GL hx hf cO (st:=st) (term:=term) (within:=within) (any:=false) (λ_=>hw) (p:=(kZ (aL x f) (bQ x f st z) z term p,z)) (by
   unfold bT;exact List.mem_flatMap.2 ⟨z,hz,ay6⟩)
  have auQ:=hT0.len;have hlen:=hT.len;dsimp only at hlen auQ;unfold iF;rw[pX,V5 hT.ok.trk ic (hT.stg k ae)];dsimp only;rw[show(kZ (aL x f) (bQ x f st z) z term p).length-1=(bQ x f st z).length-1 from ae];simp only[aao (show term<(bQ x f st z).length from ae)];rw[show(bQ x f st z).length-1=x.ticks.toNat from ae];exact⟨λ⟨c,h,e⟩=>⟨c,h.1,h.2,e⟩,λ⟨c,h1,h2,e⟩=>⟨c,⟨h1,h2⟩,e⟩⟩
 unfold pV bT;rw[pX,Ry];constructor
 ·rintro⟨p,hp,h⟩;obtain⟨z,hz,hp⟩:=iB.1 hp;rw[aD aj]at hp;obtain⟨q,hq,rfl⟩:=dz.1 hp;obtain⟨c,h1,h2,h3⟩:=(hone z hz q hq).1 h;exact⟨z,hz,c,h1,Wl.2 ⟨q,hq,h2⟩,h3⟩
 ·rintro⟨z,hz,c,h1,h2,h3⟩;obtain⟨q,hq,h2⟩:=Wl.1 h2;exact⟨_,iB.2 ⟨z,hz,by rw[aD aj];exact dz.2 ⟨q,hq,rfl⟩⟩,(hone z hz q hq).2 ⟨c,h1,h2,h3⟩⟩
end
def eF(x:aJ)(f:aQ):iC:=dH x.stas (sS x.stas f.station).1.toNat
def lS(x:aJ)(f:aQ):Sp:=zn (eF x f).2.2.2 x.week
def ko(x:aJ)(f:aQ):List Sp:=pV (aL x f) (bT x f f.station x.term.toNat [] true) x.term.toNat
def jW(x:aJ)(f g:aQ):Int:=Gd x.fixed x.each (eF x f).1 (eF x f).2.1 (eF x f).2.2.1 (eF x g).1 (eF x g).2.1 (eF x g).2.2.1
def zq(x:aJ)(i:Nat):Sp:=((x.sheets[i]?).map (lS x)).getD (0,0)
def zN(x:aJ)(i:Nat):List Sp:=((x.sheets[i]?).map (ko x)).getD []
def mQ(x:aJ):List (List Int):=x.sheets.map λf=>x.sheets.map λg=>jW x f g
def Fits(x:aJ):Prop:=∀f∈x.sheets,gG x f=false
theorem fM.sht(hx:fM x)(hf:f∈x.sheets):qG x f:=by
 obtain⟨k,hk,rfl⟩:=mr hf;exact WH (hx.sh k hk)
theorem WU(h:(sS x.stas f.station).2=0):(jU x.stas).1=0∧∃i:Nat,i<x.stas.length∧(sS x.stas f.station).1=(i:Int)∧eF x f=dH x.stas i∧(eF x f).1=f.station:=by
 unfold eF;unfold sS at h ⊢;by_cases h0:(jU x.stas).1≠0
 ·rw[aG h0]at h;exact absurd h h0
 ·rw[aD h0]at h ⊢;refine⟨Classical.not_not.1 h0,?_⟩
  cases hi:x.stas.findIdx? λs=>decide (s.1=f.station)with
  |none=>rw[hi]at h;simp at h
  |some i=>
   obtain⟨h1,h2,_⟩:=agj.1 hi;refine⟨i,h1,rfl,aj,?_⟩;have:dH x.stas i=x.stas[i]:=Sn h1;simp only[FQ,this];simpa using h2
theorem Sq(h0:(jU x.stas).1=0)(hi:i<x.stas.length):(1≤(dH x.stas i).1∧(dH x.stas i).1≤65535)∧(0≤(dH x.stas i).2.1∧(dH x.stas i).2.1≤2000)∧(0≤(dH x.stas i).2.2.1∧(dH x.stas i).2.2.1≤2000)∧pR (dH x.stas i).2.2.2=true:=by
 have h:=(WT.1 h0).2 i hi;unfold sQ at h;split at h
 ·rename_i h1;split at h
  ·rename_i h2;have:=h1.1;unfold acw at this;have:=EN this;exact⟨⟨this.1,this.2.1⟩,⟨this.2.2.1,this.2.2.2.1⟩,⟨this.2.2.2.2.1,this.2.2.2.2.2⟩,h2⟩
  ·simp at h
 ·simp at h
theorem auH{l:List mo}(h:pR l=true)(week:Int):0≤(zn l week).1∧(zn l week).1≤(zn l week).2∧(zn l week).2≤4000:=by
 unfold pR at h;simp only[bW,dG]at h;obtain⟨⟨h1,h2⟩,h3⟩:=h
 have key:∀i,i<l.length→0≤(hgt l i).2.1∧(hgt l i).2.1≤(hgt l i).2.2∧(hgt l i).2.2≤4000:=by
  intro i hi;have:=mq.1 h3 i (fD.2 hi);unfold kY at this;simp only[bW,dG]at this;omega
 unfold zn
 have fold:∀(m:List mo) (o:Sp),(0≤o.1∧o.1≤o.2∧o.2≤4000)→(∀t∈m,0≤t.2.1∧t.2.1≤t.2.2∧t.2.2≤4000)→0≤(m.foldl (λ(o:Sp) h=>if h.1≤week then h.2 else o) o).1∧(m.foldl (λ(o:Sp) h=>if h.1≤week then h.2 else o) o).1≤(m.foldl (λ(o:Sp) h=>if h.1≤week then h.2 else o) o).2∧(m.foldl (λ(o:Sp) h=>if h.1≤week then h.2 else o) o).2≤4000:=by
  intro m
  induction m with
  |nil=>intro o ho _;exact ho
  |cons t m ih=>
   intro o ho hm;rw[xO];refine ih _ ?_ (λu hu=>hm u (by simp[hu]));by_cases e:t.1≤week
   ·rw[aG e];exact hm t aj
   ·rw[aD e];exact ho
 refine fold l _ (key 0 ae) λt ht=>?_;obtain⟨i,hi,rfl⟩:=mr ht;have:=key i hi;unfold hgt at this;rw[bN,di hi,sj]at this;exact this
theorem ajT(hf:qG x f):0≤(lS x f).1∧(lS x f).1≤(lS x f).2∧(lS x f).2≤4000:=by
 obtain⟨h0,i,hi,_,e,_⟩:=WU hf.sta;unfold lS;rw[e];exact auH (Sq h0 hi).2.2.2 _
theorem aqT(hx:fM x)(f g:aQ):0≤jW x f g∧jW x f g≤10000000:=by
 have hw:=hx.wind;unfold BF at hw;simp only[bW,dG]at hw;unfold jW Gd;by_cases e:(eF x f).1=(eF x g).1
 ·rw[aG e];omega
 ·rw[aD e];have d:=ahU (eF x f).2.1 (eF x f).2.2.1 (eF x g).2.1 (eF x g).2.2.1;generalize CQ (eF x f).2.1 (eF x f).2.2.1 (eF x g).2.1 (eF x g).2.2.1=D at *;have h1:0≤x.each*D:=yR ae d.1
  have h2:x.each*D≤10000*3000:=by
   have:=Zi d.2 (show 0≤x.each from ae);have:=Ui (show x.each≤10000 from ae) (show(0:Int)≤3000 from ae);omega
  omega
theorem Rc(h:x.sheets[i]?=some f):zq x i=lS x f:=by unfold zq;rw[h];rfl
theorem Xd(h:x.sheets[i]?=some f):zN x i=ko x f:=by unfold zN;rw[h];rfl
theorem ahb{g:aQ}(h:x.sheets[i]?=some f)(h2:x.sheets[k]?=some g):iU (mQ x) i k=jW x f g:=by
 unfold iU mQ;rw[bN,bN,Ct,h,MG,sj,Ct,h2];rfl
theorem ayz(l:List je)(st tick b:Int):max 0 (-b)≤(rQ l st tick b).1∧(rQ l st tick b).2≤min 12000 (12000-b):=by
 unfold rQ
 have fold:∀(m:List je) (o:Sp) (A B:Int),A≤o.1→o.2≤B→A≤(m.foldl (λ(s:Sp) r=>if r.1=st∧r.2.2.1=tick then(max s.1 (r.2.2.2.1-b),min s.2 (r.2.2.2.2-b))else s) o).1∧(m.foldl (λ(s:Sp) r=>if r.1=st∧r.2.2.1=tick then(max s.1 (r.2.2.2.1-b),min s.2 (r.2.2.2.2-b))else s) o).2≤B:=by
  intro m
  induction m with
  |nil=>intro o A B h1 h2;exact⟨h1,h2⟩
  |cons r m ih=>
   intro o A B h1 h2;rw[xO];refine ih _ A B ?_ ?_
   ·split
    ·exact ic
    ·exact h1
   ·split
    ·exact ic
    ·exact h2
 exact fold l _ _ _ (oo _) (oo _)
theorem awf{s:Sp}{b:List Sp}{lo:Int}(h1:lo≤s.1)(h2:s.2≤hi):∀u∈inter [s] b,lo≤u.1∧u.2≤hi:=by
 intro u hu;unfold inter at hu;simp only[jN,J5,ow]at hu;obtain⟨hu,_⟩:=r9.1 hu;obtain⟨t,_,rfl⟩:=dz.1 hu;dsimp only;omega
theorem aqv(x:aJ)(f:aQ)(st:Int)(ink:List (List Sp))(last zero:Int)(s:dx)(tick:Int):∀u∈lM x f st ink last zero s tick,0≤u.1+(s.2.2+zero)∧u.2+(s.2.2+zero)≤12000:=by
 have hr:=ayz x.reads st tick (s.2.2+zero);unfold lM;dsimp only;generalize rQ x.reads st tick (s.2.2+zero)=r at *;have h1:∀u∈[r],0≤u.1+(s.2.2+zero)∧u.2+(s.2.2+zero)≤12000:=λu hu=>azW;have h0:∀u∈([]:List Sp),0≤u.1+(s.2.2+zero)∧u.2+(s.2.2+zero)≤12000:=aj;split
 ·exact h0
 ·split
  ·exact h0
  ·split
   ·exact h1
   ·split
    ·exact h0
    ·split
     ·exact h1
     ·intro u hu;have:=awf (lo:=-(s.2.2+zero)) (hi:=12000-(s.2.2+zero)) ae ae u hu;omega
theorem akO{st:Int}{c:Nat→Nat×Int}(hk:k<(x.ticks+1).toNat)(hl:(aN (bQ x f st z) k).length=(aL x f).length)(h:Mem (c k).2 (aI (aN (bQ x f st z) k) (c k).1).1):0≤jS (aL x f) z c k∧jS (aL x f) z c k≤12000:=by
 by_cases hn:(c k).1<(aL x f).length
 ·have e:(aI (aN (bQ x f st z) k) (c k).1).1=lM x f st (jP f) (df f).length z ((aL x f)[(c k).1]) k:=by
   unfold bQ;rw[EX _ _ _ _ _ k hk,vT amk,lK]
  rw[e]at h;obtain⟨s,hs,h1,h2⟩:=h;have:=aqv x f st (jP f) (df f).length z ((aL x f)[(c k).1]) k s hs;have eo:mY (aL x f) (c k).1=((aL x f)[(c k).1]).2.2:=by unfold mY;rw[List.getD_eq_getElem?_getD,List.getElem?_eq_getElem hn,Option.getD_some]
  unfold jS;rw[eo];omega
 ·rw[lW ae]at h;exact absurd h (gU _)
theorem acs(hx:fM x)(hf:qG x f)(hl:gG x f=false):bF (ko x f)∧∀s∈ko x f,0≤s.1∧s.2≤12000:=by
 refine⟨oQ _,?_⟩;unfold ko pV;refine NJ λs hs=>?_;obtain⟨p,hp,hs⟩:=iB.1 hs;have hz:=GL hx hf hl (λh=>ze) hp;unfold bT at hp;obtain⟨z,hzz,hp⟩:=iB.1 hp;have e:p=(bQ x f f.station z,z):=Oh;subst e;have hv:=(oQ (yA (aL x f) (iD (bQ x f f.station z) x.term.toNat) z)).1 s hs;have hlen:=hz.len;dsimp only at hlen;have ht:=hx.term
 have key:∀v,Mem v (iF (aL x f) x.term.toNat (bQ x f f.station z,z))→0≤v∧v≤12000:=by
  intro v hv;unfold iF at hv;rw[pX,V5 hz.ok.trk ic (hz.stg _ ae)]at hv;dsimp only at hv;obtain⟨c,hc,rfl⟩:=hv;have h1:=hc.al x.term.toNat ae ae;exact akO ae (hz.stg _ ae) h1
 have a:=key s.1 ⟨s,hs,ae,hv⟩;have b:=key s.2 ⟨s,hs,hv,ae⟩;omega
theorem NV(hx:fM x)(hfit:Fits x)(hn:1≤x.sheets.length):yZ x.sheets.length (zq x) (zN x) (mQ x):=by
 have hm:∀i,(h:i<x.sheets.length)→x.sheets[i]?=some x.sheets[i]∧x.sheets[i]∈x.sheets:=λi h=>⟨di h,eu h⟩;refine⟨⟨hn,hx.sheets⟩,λi hi=>?_,λi hi=>?_,by simp[mQ],?_⟩
 ·rw[Rc (hm i hi).1];exact ajT (hx.sht (hm i hi).2)
 ·rw[Xd (hm i hi).1];exact acs hx (hx.sht (hm i hi).2) (hfit _ (hm i hi).2)
 ·intro r hr;unfold mQ at hr;obtain⟨f,_,rfl⟩:=dz.1 hr;refine⟨aj,λv hv=>?_⟩;obtain⟨g,_,rfl⟩:=dz.1 hv;exact aqT hx f g
structure F6(x:aJ)(m:Nat→Int):Prop where
 mem:∀i f,x.sheets[i]?=some f→∃v,Mem v (ko x f)∧(eZ v (lS x f)).1≤m i∧m i≤(eZ v (lS x f)).2
 wind:∀i k f g,x.sheets[i]?=some f→x.sheets[k]?=some g→m k-jW x f g≤m i
theorem WP{m:Nat→Int}:tY (pY (zq x) (zN x) x.sheets.length) (iU (mQ x)) m↔F6 x m:=by
 have hm:∀i f,x.sheets[i]?=some f→i<x.sheets.length:=λi f h=>by
  rcases ZA i x.sheets.length with h1|h1
  ·exact h1
  ·rw[wT h1]at h;cases h
 have hs:∀i f,x.sheets[i]?=some f→aP (pY (zq x) (zN x) x.sheets.length) i=zi (lS x f) (ko x f):=λi f h=>by
  unfold pY;rw[U0 _ _ _ _ (hm i f h),Rc h,Xd h]
 constructor
 ·intro h;refine⟨λi f hf=>?_,λi k f g hf hg=>?_⟩
  ·have:=h.mem i (by rw[vZ];exact hm i f hf);rw[hs i f hf,ahA]at this;exact this
  ·have:=h.wind i k (by rw[vZ];exact hm i f hf) (by rw[vZ];exact hm k g hg);rw[ahb hf hg]at this;exact this
 ·intro h;refine⟨λi hi=>?_,λi k hi hk=>?_⟩
  ·rw[vZ]at hi;have e:=di hi;rw[hs i _ e,ahA];exact h.mem i _ e
  ·rw[vZ]at hi hk;have e:=di hi;have e2:=di hk;rw[ahb e e2];exact h.wind i k _ _ e e2
def qH(x:aJ)(i:Nat)(l:List Sp):Prop:=ZL (zq x) (zN x) (mQ x) x.sheets.length i l
theorem GK(hf:x.sheets[i]?=some f)(h:qH x i l)(v:Int):Mem v l↔Mem v (ko x f)∧∃m,F6 x m∧(eZ v (lS x f)).1≤m i∧m i≤(eZ v (lS x f)).2:=by
 have:=h.2 v;rw[Xd hf,Rc hf]at this;simp only[WP]at this;exact this
def gI(x:aJ)(l:List aQ):aJ:={ x with sheets:=l }
theorem asX:(List.range x.sheets.length).all (rD x)=true↔(∀f∈x.sheets,lZ x f=true)∧x.sheets.Pairwise λf g=>f.station<g.station:=by
 rw[mq];constructor
 ·intro h
  have h2:∀i,(hi:i<x.sheets.length)→lZ x x.sheets[i]=true∧∀j,(hj:j+1=i)→(x.sheets[j]' ae).station<x.sheets[i].station:=by
   intro i hi;have:=h i (fD.2 hi);unfold rD at this;rw[di hi]at this;simp only[bW]at this;refine⟨this.1,λj hj=>?_⟩;subst hj;have h3:=this.2;simp only[di (show j<x.sheets.length from ae),dG]at h3;exact h3
  refine⟨λf hf=>?_,?_⟩
  ·obtain⟨i,hi,rfl⟩:=mr hf;exact(h2 i hi).1
  ·rw[Zu]
   have key:∀(d i:Nat) (h1:i+d+1<x.sheets.length),(x.sheets[i]' ae).station<(x.sheets[i+d+1]).station:=by
    intro d
    induction d with
    |zero=>intro i h1;exact(h2 (i+0+1) h1).2 i ae
    |succ d ih=>
     intro i h1;have a:=ih i ae;have b:=(h2 (i+(d+1)+1) h1).2 (i+d+1) ae;omega
   intro i j hi hj hij;obtain⟨d,rfl⟩:∃d,j=i+d+1:=⟨j-i-1,ae⟩;exact key d i hj
 ·rintro⟨h1,h2⟩ i hi;have hi:=fD.1 hi;rw[Zu]at h2;unfold rD;rw[di hi];simp only[bW];refine⟨h1 _ (eu hi),?_⟩
  cases i with
  |zero=>rfl
  |succ j=>
   simp only[di (show j<x.sheets.length from ae),dG];exact h2 j (j+1) ae hi ae
theorem adW:dA x=0↔(jU x.stas).1=0∧BF x.fixed x.each=true∧(1≤x.ticks∧x.ticks≤400)∧(0≤x.term∧x.term≤x.ticks)∧(0≤x.week∧x.week≤10000)∧x.sheets.length≤64∧x.reads.length≤64∧((∀f∈x.sheets,lZ x f=true)∧x.sheets.Pairwise λf g=>f.station<g.station)∧x.reads.all (oW x)=true:=by
 rw[←asX];unfold dA;by_cases h0:(jU x.stas).1≠0
 ·rw[aG h0];exact⟨λh=>absurd h h0,λh=>absurd h.1 h0⟩
 ·rw[aD h0];by_cases h1:BF x.fixed x.each=true∧(1≤x.ticks∧x.ticks≤400)∧(0≤x.term∧x.term≤x.ticks)∧(0≤x.week∧x.week≤10000)∧x.sheets.length≤64∧x.reads.length≤64∧(List.range x.sheets.length).all (rD x)=true∧x.reads.all (oW x)=true
  ·rw[aG h1];exact⟨λ_=>⟨Classical.not_not.1 h0,h1⟩,λ_=>rfl⟩
  ·rw[aD h1];exact⟨λh=>ae,λh=>absurd h.2 h1⟩
def xq(x:aJ)(f:aQ)(L:List Sp):List (List Sp):=qJ (aL x f) x.ticks (bT x f f.station x.term.toNat L false)
def jO(x:aJ)(f:aQ):List (List Sp):=qJ (aL x f) x.ticks (bT x f f.station 0 [] true)
theorem Qz(ss:List dx)(ticks:Int)(l:List (aT×Int)):(qJ ss ticks l).length=(ticks+1).toNat:=by simp[qJ]
theorem aav{ticks:Int}{l:List (aT×Int)}(h:k<(qJ ss ticks l).length):(qJ ss ticks l)[k]=pV ss l k:=by simp[qJ]
def KQ(a b:List Sp):Bool:=a.all λs=>b.any λt=>decide (t.1≤s.1)&&decide (s.2≤t.2)
def qx(a b:List (List Sp)):Bool:=decide (a.length=b.length)&&(List.range a.length).all λi=>KQ (aP a i) (aP b i)
theorem av3{a b:List Sp}(ha:∀s∈a,s.1≤s.2)(hb:bF b)(h:∀v,Mem v a→Mem v b):KQ a b=true:=by
 unfold KQ;rw[mq];intro s hs;rw[FU];have hv:=ha s hs;obtain⟨t,ht,h1,h2⟩:=h s.1 ⟨s,hs,ae,hv⟩;refine⟨t,ht,?_⟩;simp only[bW,dG];refine⟨h1,?_⟩;rcases Int.lt_or_le t.2 s.2 with hlt|hle
 ·exfalso;obtain⟨u,hu,g1,g2⟩:=h (t.2+1) ⟨s,hs,ae,ae⟩;obtain⟨i,hi,rfl⟩:=mr ht;obtain⟨j,hj,rfl⟩:=mr hu;have hp:=Zu.1 hb.2;rcases Nat.lt_trichotomy i j with h3|h3|h3
  ·have:=hp i j hi hj h3;omega
  ·subst h3;omega
  ·have:=hp j i hj hi h3;have:=hb.1 _ (eu hj);have:=hb.1 _ (eu hi);omega
 ·exact hle
theorem Xm{ticks:Int}{l m:List (aT×Int)}(h:∀k:Nat,(k:Int)≤ticks→∀v,Mem v (pV ss l k)→Mem v (pV ss m k)):qx (qJ ss ticks l) (qJ ss ticks m)=true:=by
 unfold qx;rw[bW];refine⟨by simp[Qz],?_⟩;rw[mq];intro k hk;have hk:=fD.1 hk;have e1:aP (qJ ss ticks l) k=pV ss l k:=by unfold aP;rw[List.getD_eq_getElem?_getD,List.getElem?_eq_getElem hk,Option.getD_some,aav]
 rw[Qz]at hk;have e2:aP (qJ ss ticks m) k=pV ss m k:=by unfold aP;rw[List.getD_eq_getElem?_getD,List.getElem?_eq_getElem (by rw[Qz];exact hk),Option.getD_some,aav]
 rw[e1,e2];exact av3 (oQ _).1 (oQ _) (h k ae)
section
variable {x:aJ} {f:aQ} (hx:fM x) (hfit:Fits x) {i:Nat} (hf:x.sheets[i]?=some f)
include hx hfit hf
theorem Bj:qG x f∧gG x f=false:=by
 have hm:=qX hf;exact⟨hx.sht hm,hfit f hm⟩
end
abbrev fB:=Int×Sp
def nO{α:Type}(q:Nat→Bool)(l:List α)(k:Nat):List α:=(List.range k).filterMap λj=>if q j=true then none else l[j]?
theorem VW(q:Nat→Bool)(l:List α):nO q l 0=[]:=rfl
theorem abT{q:Nat→Bool}(l:List α)(h:q k=true):nO q l (k+1)=nO q l k:=by
 unfold nO;rw[jq,List.filterMap_append,List.filterMap_cons_none (by rw[aG h]),List.filterMap_nil,ow]
theorem VV{q:Nat→Bool}{l:List α}(hk:k<l.length)(h:q k=false):nO q l (k+1)=nO q l k++[l[k]]:=by
 unfold nO;rw[jq,List.filterMap_append,List.filterMap_cons_some (b:=l[k]) (by rw[aD (by rw[h];exact aej),di hk]),List.filterMap_nil]
theorem akE{q:Nat→Bool}{l:List α}{x:α}(h:x∈nO q l k):x∈l:=by
 obtain⟨j,_,hj⟩:=List.mem_filterMap.1 h;split at hj
 ·cases hj
 ·exact qX hj
theorem Rn(q:Nat→Bool)(l:List α)(k:Nat):(nO q l k).length≤k:=by
 have:=List.length_filterMap_le (λj=>if q j=true then none else l[j]?) (List.range k)
 rwa[H9]at this
theorem abS(l:List α)(k:Nat)(hk:k≤l.length):nO (λ_=>false) l k=l.take k:=by
 induction k with
 |zero=>simp[VW]
 |succ k ih=>rw[VV hk rfl,ih ae,jF hk]
def GQ(p:fB→Bool)(i:Nat)(f:aQ):aQ:={ f with marks:=nO (λk=>p (1,((i:Int),(k:Int)))) f.marks f.marks.length,names:=if f.names.length=f.marks.length then nO (λk=>p (1,((i:Int),(k:Int)))) f.names f.marks.length else f.names }
def BG(p:fB→Bool)(l:List aQ)(k:Nat):List aQ:=(l.take k).zipIdx.map λq=>GQ p q.2 q.1
theorem anE(p:fB→Bool){l:List aQ}(h:k<l.length):BG p l (k+1)=BG p l k++[GQ p k l[k]]:=by
 unfold BG;rw[jF h,List.zipIdx_append,iT];simp only[oF,ags (Nat.le_of_lt h),Zx,List.zipIdx_nil,oG,Av,oJ]
theorem Xl(p:fB→Bool)(l:List aQ)(h:k≤l.length):(BG p l k).length=k:=by simp[BG,h]
def lF(x:aJ)(p:fB→Bool):aJ:={ x with sheets:=BG p x.sheets x.sheets.length,reads:=nO (λk=>p (2,((0:Int),(k:Int)))) x.reads x.reads.length }
theorem anH{p:fB→Bool}{g:aQ}(h:(lF x p).sheets[i]?=some g):∃f,x.sheets[i]?=some f∧g=GQ p i f:=by
 unfold lF BG at h;simp only[jc,Ct,List.getElem?_zipIdx]at h
 cases hf:x.sheets[i]? with
 |none=>rw[hf]at h;cases h
 |some f=>rw[hf]at h;simp at h;exact⟨f,rfl,h.symm⟩
theorem aw2{m m':List xP}(h:(oO d m).1=0)(hs:∀a∈m',a∈m)(hl:m'.length≤m.length):(oO d m').1=0:=by
 unfold oO at h ⊢;split at h
 ·rename_i hd;rw[aG hd];split at h
  ·simp at h
  ·rw[aD ae]
   cases e:m.findIdx? (λx=>!EK d x)with
   |some i=>rw[e]at h;simp at h
   |none=>
    have e2:m'.findIdx? (λx=>!EK d x)=none:=by
     rw[agi]at e ⊢;exact λa ha=>e a (hs a ha)
    rw[e2]
 ·simp at h
theorem anI(p:fB→Bool)(h:fM x):fM (lF x p):=by
 refine⟨h.sta,h.wind,h.ticks,h.term,h.week,?_,fK (Rn _ _ _) h.reads,λk hk=>?_,λr hr=>h.rd r (akE hr)⟩
 ·show(BG p x.sheets x.sheets.length).length≤64
  rw[Xl _ _ (aV _)];exact h.sheets
 ·obtain⟨f,hf,e⟩:=anH (di hk);rw[e];obtain⟨hk',rfl⟩:=gN.1 hf;have h1:=h.sh k hk';have h2:=(WH h1).marks;have h3:=aw2 h2 (m':=(GQ p k x.sheets[k]).marks) (λa ha=>akE ha) (Rn _ _ _);unfold lZ at h1 ⊢;simp only[bW,dG]at h1 ⊢;exact⟨h1.1,h3⟩
theorem aBO(p:fB→Bool)(h:Fits x):Fits (lF x p):=by
 intro g hg;obtain⟨i,hi,rfl⟩:=mr hg;obtain⟨f,hf,e⟩:=anH (di hi);rw[e];exact h f (qX hf)
theorem aBN(l:List aQ):∀k,k≤l.length→BG (λ_=>false) l k=l.take k:=by
 intro k
 induction k with
 |zero=>intro _;rfl
 |succ k ih=>
  intro hk;rw[anE _ hk,ih ae,jF hk]
  congr 2
  unfold GQ;rw[abS _ _ (aV _),jc];split
  ·rename_i e;rw[←e,abS _ _ (aV _),jc]
  ·rfl
theorem aBP(x:aJ):lF x (λ_=>false)=x:=by
 unfold lF;rw[aBN _ _ (aV _),abS _ _ (aV _),jc,jc]
def nS{α:Type}:List α→Nat→List α→List (List α)
 |_,0,on=>[on]
 |[],_+1,_=>[]
 |c::l,n+1,on=>nS l n (on++[c])++nS l (n+1) on
theorem alF(l on:List α):nS l 0 on=[on]:=by cases l<;>rfl
theorem ax2{l:List α}(h:k<l.length)(n:Nat)(on:List α):nS (l.drop k) (n+1) on=nS (l.drop (k+1)) n (on++[l[k]])++nS (l.drop (k+1)) (n+1) on:=by
 rw[J4 h];rfl
def GA{α:Type}(l:List α)(k:Nat):List (List α):=(List.range k).flatMap λn=>nS l n []
theorem adk(l:List α)(k:Nat):GA l (k+1)=GA l k++nS l k []:=by
 unfold GA;rw[List.range_succ,List.flatMap_append];simp
section
attribute [local go_sem] Qv
attribute [local go_sem] Oper.semAt_some
theorem U2(C:Nat)(term:Int)(a:Option Addr)(m c:Nat)(any:Bool)(w:World):
  Calls prog 66 #[.pointer (some ⟨C,0,none⟩),term,.slice a m c,.bool any] w λe w'=>e=.returned (.func (.func 113) #[] #[.pointer (some ⟨w.heap.size,0,none⟩),.pointer (some ⟨w.heap.size+3,0,none⟩),.pointer (some ⟨w.heap.size+2,0,none⟩),.pointer (some ⟨w.heap.size+1,0,none⟩)])∧
   Bx w.heap.size [.pointer (some ⟨C,0,none⟩)] w'∧Bx (w.heap.size+3) [.bool any] w'∧Bx (w.heap.size+2) [.slice a m c] w'∧Bx (w.heap.size+1) [term] w'∧BL w w':=by
 go_in;go_wp2;go_ret;exact⟨rfl,(((Bx.new rfl).alloc _).alloc _).alloc _,Bx.new aj,(Bx.new aj).alloc _,((Bx.new aj).alloc _).alloc _,Bl.alloc (Bl.alloc (Bl.alloc (Bl.alloc (aB _ _) _) _) _) _⟩
structure Aq(w0:World)(aw:Option Addr)(cw:Nat)(within:List Sp):Prop where
 lst:aC Shape.span w0 (.slice aw within.length cw) within
 nrm:bF within
 bd:∀s∈within,-100000≤s.1∧s.2≤100000
 len:within.length≤100000
theorem Aq.nil(w0:World):Aq w0 none 0 []:=⟨aC.nil,kH,aj,aj⟩
theorem Aq.below{w:World}{aw:Option Addr}{cw:Nat}{within:List Sp}(h:Aq w aw cw within)(hb:BL w w'):Aq w' aw cw within:=⟨h.lst.below hb,h.nrm,h.bd,h.len⟩
theorem adK(x:aJ)(f:aQ)(st:Int)(C:Nat)(cs:List Value)(term:Nat)(aw:Option Addr)(cw:Nat)(within:List Sp)(any:Bool)(Bc Ba Bw Bt n:Nat)(w0 w:World)(hF:mI x f st C cs w0)(hx:fM x)(hf:qG x f)(cO:gG x f=false)(hl:(aL x f).length≤1000000)
  (hs0:w0.heap.size≤w.heap.size) (hk0:∀q,q<w0.heap.size→w.heap[q]?=w0.heap[q]?) (kW:Bx Bc [.pointer (some ⟨C,0,none⟩)] w) (hBa:Bx Ba [.bool any] w) (hBw:Bx Bw [.slice aw within.length cw] w) (uD:Bx Bt [term] w) (hW:Aq w0 aw cw within) (Ns:(term:Int)≤x.ticks) :
  su prog n 113 #[.pointer (some ⟨Bc,0,none⟩),.pointer (some ⟨Ba,0,none⟩),.pointer (some ⟨Bw,0,none⟩),.pointer (some ⟨Bt,0,none⟩)] CU (λk=>k<w0.heap.size∨k=Bc∨k=Ba∨k=Bw∨k=Bt) (λys=>ys.map (·.2)=bT x f st term within any) 1000000000 w (λy W=>aC Shape.nod.list W y.1 y.2.1):=by
 cases any
 ·exact aAL x f st C cs term aw cw within Bc Ba Bw Bt n w0 w hF hx hf cO hl hs0 hk0 kW hBa hBw uD hW.lst (λs hs=>by have:=hW.bd s hs;have:=hW.nrm.1 s hs;omega) (by have:=hW.len;omega) Ns
 ·exact aAJ x f st C cs term within Bc Ba Bw Bt n w0 w hF (xY hx hf) hl hs0 hk0 kW hBa
def Zh(w:World)(b:Nat):Prop:=∃o v,w.cell? ⟨b,o,none⟩=some v
theorem Shape.list_has{s:Shape α}{w:World}{xs:List α}(hn:0<s.n)(h:s.list.reads A w [v] xs)(hs:∀cs x,s.reads A w cs x→s.reads (Zh w) w cs x):s.list.reads (Zh w) w [v] xs:=by
 obtain⟨a,c,e,h1,h2,h3⟩:=h;refine⟨a,c,e,h1,h2,λh0=>?_⟩;obtain⟨b,o,ea,hb,_,hr⟩:=h3 h0;refine⟨b,o,ea,hb,?_,λk hk=>?_⟩
 ·obtain⟨cs,g1,g2⟩:=hr 0 h0;have hl:=s.len g1;refine⟨o+0*s.n+0,cs[0],?_⟩;rw[g2 0 hn,di ae]
 ·obtain⟨cs,g1,g2⟩:=hr k hk;exact⟨cs,hs _ _ g1,g2⟩
theorem Sz{w:World}(h:aC Shape.nod.list w v T):Shape.nod.list.list.reads (Zh w) w [v] T:=
 Shape.list_has aW h λcs x hx=>by
  obtain⟨u,rfl,h1⟩:=EI.1 hx;refine Shape.list_has aW h1 λcs y hy=>?_;obtain⟨u1,u2,rfl,g1,g2⟩:=zz.1 hy;exact zz.2 ⟨u1,u2,rfl,Shape.list_has aW g1 λcs z hz=>mE.2 (mE.1 hz),Shape.list_has aW g2 λcs z hz=>jC.2 (jC.1 hz)⟩
def ahZ(x:Sp):List Value:=[.int .i64 x.1,.int .i64 x.2]
theorem arH(x:aJ)(f:aQ)(st:Int)(C:Nat)(cs:List Value)(tick term:Nat)(aw:Option Addr)(cw:Nat)(within:List Sp)(any:Bool)(w:World)(hF:mI x f st C cs w)(hx:fM x)(hf:qG x f)(cO:gG x f=false)(hl:(aL x f).length≤1000000)(hW:Aq w aw cw within)(Ns:(term:Int)≤x.ticks)(aD4:(tick:Int)≤x.ticks):
  Calls prog 139 #[.pointer (some ⟨C,0,none⟩),tick,term,.slice aw within.length cw,.bool any] w λe w'=>∃v,e=.returned v∧bG w.heap.size w' v (pV (aL x f) (bT x f st term within any) tick)∧BL w w':=by
 have HF:=U hF;have tV:=U (And.intro hx (And.intro hf cO));have HW:=U hW;have HP:=U (xY hx hf);have Ch:=U (λp (h:p∈bT x f st term within any)=>GL hx hf cO (λ_=>hW.nrm) h);have D7:=U (anp (xY hx hf) st term within any);have gz:Hid (∀y∈aL x f,-8≤y.2.2∧y.2.2≤8):=U (λy hy=>ajm);have hcn:iV within≤2001:=by have:=hW.len;unfold iV;omega
 obtain⟨v6,s1,s2⟩:=hF.list;have yP:=U s2;have tO:=U s1;have hlC:=hF.m.bx.lt;have htk:tick<(x.ticks+1).toNat:=ae;have hw1:=hW.lst.shape;obtain⟨_,_,ew,hw1,hw2⟩:=hw1;cases ew;unfold maxLen at hw2;clear hF hx hf cO hW s1 s2;refine(xW (n:=3)).1 ?_;refine zb func139 rfl trivial ?_ rfl;simp only[ntmps139,jb,dS,fU,Nat.reduceAdd,Nat.reduceSub,kv,kw,kC,kz,fE,gB];have hfn:∀k,Fence.wide.fn k:=λ_=>trivial;have hdp:¬(Fence.wide.depth.isSome=true):=kL;gi_wp2_with fail;have X5:=((Bx.new (W:=w) (t:=88) (vs:=[.pointer (some ⟨C,0,none⟩)]) rfl).alloc (.cells #[tick] 3));have X6:=(Bx.new (W:=w.alloc (.cells #[.pointer (some ⟨C,0,none⟩)] 88)) (B:=w.heap.size+1) (t:=3) (vs:=[.int .i64 tick]) aj);have hb0:BL w ((w.alloc (.cells #[.pointer (some ⟨C,0,none⟩)] 88)).alloc (.cells #[tick] 3)):=Bl.alloc (Bl.alloc (aB _ _) _) _;have hs0:w.heap.size+2≤((w.alloc (.cells #[.pointer (some ⟨C,0,none⟩)] 88)).alloc (.cells #[tick] 3)).heap.size:=aj;have aDZ:((w.alloc (.cells #[.pointer (some ⟨C,0,none⟩)] 88)).alloc (.cells #[tick] 3)).heap.size≤w.heap.size+1+1:=aj;generalize (w.alloc (.cells #[.pointer (some ⟨C,0,none⟩)] 88)).alloc (.cells #[tick] 3)=w1 at *;have TY:=U (And.intro X5 X6)
 have p5:=(X5.alloc (.cells #[.slice none 0 0] 54)).cell 0;have l5:=X5.lt;simp only[aK]at p5;have afW:=U (Bx.new (W:=w1) (B:=w.heap.size+1+1) (t:=54) (vs:=[.slice none 0 0]) ae);have hb1:=Bl.alloc hb0 (.cells #[.slice none 0 0] 54);refine(jH jJ (U2 C term aw within.length cw any _)).mono ?_;rintro e w2 ⟨rfl,kW,hBa,hBw,uD,hb2⟩;simp only[fH]at kW hBa hBw uD;have qC:=U (λn=>adK x f st C cs term aw cw within any (w1.heap.size+1) (w1.heap.size+1+3) (w1.heap.size+1+2) (w1.heap.size+1+1) n w w2 HF.o tV.o.1 tV.o.2.1 tV.o.2.2 hl (Bl.call hb1 hb2).size (λq hq=>(Bl.call hb1 hb2).block q hq) kW hBa hBw uD HW.o Ns);have hn2:w1.heap.size+5≤w2.heap.size:=aa9;have bg:=U (afW.o.next hb2);have HB2:=U (Bl.call (Bl.alloc (aB w1.heap.size w1) (.cells #[.slice none 0 0] 54)) hb2);have HB0:=U hb0;clear kW hBa hBw uD hb1 hb2 hb0 X5 X6 p5 l5 afW;gi_wp2_with fail;refine(λ(h:∃A:Nat→(Value×aT×Int)→Act,_)=>h.elim λ_ h=>h) ?_;apply Exists.intro
 refine E8 (gf:=113) (lb:=#[.pointer (some ⟨w1.heap.size+1,0,none⟩),.pointer (some ⟨w1.heap.size+1+3,0,none⟩),.pointer (some ⟨w1.heap.size+1+2,0,none⟩),.pointer (some ⟨w1.heap.size+1+1,0,none⟩)]) rfl (fo func113 aF rfl) (qC.o _) (λq hq=>ae) (λ_=>rfl)
  (λown pre W=>LQ 41 2 ahZ w1 (w.heap.size+1+1) w2.heap.size own (pre.flatMap λy=>iF (aL x f) tick y.2) W) ?hI (λ_ _ _ _=>False) ?hIx ?h0
  (λown pre y a1 W=>∃(bt:Nat) (v:Value),(Bx bt [y.1] W∧w2.heap.size+2≤bt∧¬own bt)∧Shape.nod.list.list.reads (λq=>q≠w2.heap.size+1) W [y.1] y.2.1∧y.2∈bT x f st term within any∧(pre.length<(bT x f st term within any).length∧pre.map (·.2) <+: bT x f st term within any)∧(Bx (w.heap.size+1+1) [v] W∧bG (w2.heap.size+2) W v (pre.flatMap λy=>iF (aL x f) tick y.2)∧(∀k,v.ownBlock=some k→¬own k∧k≠bt)∧BL w1 W)∧a1=?w bt y) ?hAx ?assign ?body ?done ?stop
 case hI=>
  intro own own' s A B hi ho hs ht hw;exact agY hi ae ae ho hs ht hw
 case hIx=>exact aFs
 case h0=>exact⟨_,bg.o,Di rfl,(λk hk=>by cases hk),HB2.o⟩
 case hAx=>
  rintro own pre y a1 A B ⟨bt,v,⟨h1,h2,h3⟩,h4,h5,h5b,⟨h6,h7,h8,h9⟩,h10⟩ ho ht hlt hsz;exact⟨bt,v,⟨h1.turns ht (λe=>ae),h2,h3⟩,Shape.keep _ h4 (ht.same λb hb _=>hb),h5,h5b,⟨h6.turns ht (λe=>ae),fO h7 ht (λk hk e=>by have:=(h7.lt k hk).1;omega),h8,aA.below h9 ht ae (λk e=>ae)⟩,h10⟩
 case assign=>
  rintro ll own pre y W hi' ho hs hlt ⟨ys,hys,hpre⟩ hfa hnc;have HI:=U hi';clear hi';have hpm:=hpre.map (λy:Value×aT×Int=>y.2);rw[show ys.map (λy:Value×aT×Int=>y.2)=bT x f st term within any from hys,iT]at hpm;have HM:=U (hpm.subset aj:y.2∈bT x f st term within any);have DY:=U (And.intro (by have:=hpm.length_le;simp at this;omega:pre.length<(bT x f st term within any).length) ((PZ _ _).trans hpm));have HT:=U (Shape.mono _ (Sz hfa) (A':=λq=>q≠w2.heap.size+1) λb _ ⟨o,u,h⟩ e=>WW);obtain⟨av,cv,e1,_,_⟩:=(kK HT.o).shape;have jL:=U e1;clear hpre hpm hys hfa hnc;unfold CU;rw[e1];clear e1;gi_wp2;rw[←jL.o];have hbl:BL W (W.alloc (.cells #[y.1] 139)):=Bl.alloc (aB _ _) _;have hX1:=Bx.new (W:=W) (t:=139) (vs:=[y.1]) rfl
  have Gn:fG w2.heap.size (λk=>k<w.heap.size∨k=w1.heap.size+1∨k=w1.heap.size+1+3∨k=w1.heap.size+1+2∨k=w1.heap.size+1+1) own W (W.alloc (.cells #[y.1] 139)):=fG.of_below hbl λq hq=>by
   rcases hq with h|h|h|h
   ·omega
   ·exact(ho q h).2
   ·omega
   ·omega
  obtain⟨v,hv,hr,hd,hb⟩:=HI.o;have hI2:=And.intro (hv.next hbl) (And.intro (il hr hbl) (And.intro (λk hk=>And.intro (hd k hk) (by have:=(hr.lt k hk).2;omega:k≠W.heap.size)) (aA.below hb (aA.of_below (own:=λ_=>False) hbl) ae (λk h=>h.elim))));have hTn:=Shape.below HT.o hbl;clear hv hr hd hb HI;have hno:¬own W.heap.size:=λh=>VD;generalize W.alloc (.cells #[y.1] 139)=W2 at *
  (try unfold BL at *);generalize W.heap.size=bt at *
  exact⟨Gn,bt,v,⟨hX1,hs,hno⟩,hTn,HM.o,DY.o,hI2,rfl⟩
 case body=>
  rintro ll own pre y a1 W ⟨bt,v,⟨h1,h2,h3⟩,h4,h5,⟨h5b,h5c⟩,⟨hv,hO,hdj,hbw1⟩,rfl⟩ ho hs hlt _;have HZ:=U (Ch.o _ h5)
  have bE:Hid ((pre.flatMap λy=>iF (aL x f) tick y.2).length≤100000000000):=U (by
   have key:∀l:List (Value×aT×Int),(∀p∈l.map (·.2),p∈bT x f st term within any)→(l.flatMap λy=>iF (aL x f) tick y.2).length≤12500*l.length:=by
    intro l
    induction l with
    |nil=>simp
    |cons a l ih=>
     intro hl;rw[jN,dn,dS];have h1:=ih λp hp=>hl p (by simp[hp]);have hz:=Ch.o _ (hl a.2 aj);have h2:=at_len gz.o hz.ok hz.zero tick;omega
   have:=key pre λp hp=>h5c.subset hp;have h6:=D7.o;have h7:401*(iV within+1)≤401*2002:=Uy _ ae
   omega)
  have nz:=U (at_len gz.o HZ.o.ok HZ.o.zero tick);have Fw:Hid ((pre++[y]).flatMap (λy=>iF (aL x f) tick y.2)=(pre.flatMap λy=>iF (aL x f) tick y.2)++iF (aL x f) tick y.2):=U (by simp[mO]);have vB:Hid (iF (aL x f) tick y.2=norm (yA (aL x f) (iD y.2.1 tick) y.2.2)):=U rfl;generalize (pre.flatMap λy=>iF (aL x f) tick y.2)=XX at *;obtain⟨yv,yT,yz⟩:=y;have HT:Hid (Shape.nod.list.list.reads (λq=>q≠w2.heap.size+1) W [yv] yT):=U h4;have HZ2:Hid (Ib x f (yT,yz)):=HZ;obtain⟨av,cv,rfl,_,_⟩:=(kK HT.o).shape;have HT2:=U (kK HT.o);clear h4 h5 h5b h5c HZ HT;have Tm:=U hdj;have cB:=U hbw1;have HOW:=U ho;have HO:=U hO;have HV:=U hv;have wQ:=U h1;have Da:=hbw1.size;obtain⟨oN,c11,rfl⟩:=bv hO;have RP:=hv.cell 0;have l11:=hv.lt;have r5:=(TY.o.1.next hbw1).cell 0;have l5:=(TY.o.1.next hbw1).lt;have r6:=(TY.o.2.next hbw1).cell 0;have l6:=(TY.o.2.next hbw1).lt;have rb:=h1.cell 0;have lb:=h1.lt;simp only[aK]at RP r5 r6 rb;have hrb:W.cell? ⟨bt,0,none⟩=some (.slice av yT.length cv):=rb;have Fj:=U (HF.o.below (Bl.call HB0.o hbw1));have FE:=U (yP.o.below (Bl.call HB0.o hbw1))
  have aop:=U (λ(W2:World) (hb:BL W W2)=>cat C cs v6 (.slice av yT.length cv) (aL x f) yT tick yz W2 (Fj.o.m.bx.next hb) tO.o (FE.o.below hb) (HT2.o.below hb) HZ2.o.ok (by rw[HZ2.o.len];exact htk) (HZ2.o.stg tick htk) HZ2.o.zero gz.o);clear hdj hbw1 ho hO hv h1 rb;gi_wp2;refine rU [6,7] [5,6,7] 1 [] [(0,[0,1,2,3,4],5),(0,[],6),(0,[],7)] [] [] [(0,[_,_,_,_,_],5,_),(0,[],6,_),(0,[],7,_)] [] ?_;refine aH (ku ?_)
  (repeat(go_big_quiet_step (fail)));refine aH ?_
  intro w7 bV;go_wp2_with fail;refine(aop.o w7 bV).mono ?_;rintro e w8 ⟨u,rfl,hOu,hb78⟩;have bq:=Bl.call bV hb78;obtain⟨au,cu,rfl⟩:=bv hOu;obtain⟨AA,hAA⟩:∃l,Hid (norm (yA (aL x f) (iD yT tick) yz)=l):=⟨_,U rfl⟩;have aes:Hid (iF (aL x f) tick (yT,yz)=AA):=U (vB.o.trans hAA.o);have hal:AA.length≤12500:=by rw[←aes.o];exact nz.o
  rw[hAA.o]at hOu ⊢;have Pd:=U hOu;clear hOu;have hxl:=bE.o;have BZ:=U (fq HO.o bq);have lU:=bq.size;go_wp2;refine dZ bq (rW ?_);go_wp2_with (at_builtin;go_loud (refine Ov _ rfl _ _ rfl (w2.heap.size+2) (.slice oN XX.length c11) (.slice au AA.length cu) XX AA rfl BZ.o rfl (jT Pd.o) ae ae ?_);intro v9 w9 Ez Gq IP)
  have auR:=BZ.o.lt;have zt:=(HV.o.next bq).grown Gq (λe=>by have:=(auR _ e.symm).1;omega);obtain⟨a9,c9,rfl⟩:=bv Ez;have g0:=zt.cell 0;have gf:=zt.free 0;have gl:=zt.lt;simp only[aK]at g0;refine bS _ rfl (rW ?_);go_wp2;refine bS _ rfl (jl ?_);first|refine uO ?_|simp only[iI]
  have pU:aA (λq=>(Value.slice oN XX.length c11).ownBlock=some q) W w9:=(aA.of_below bq).trans (aA.grown Gq (λq hq=>hq))
  have hn8:nI W (Value.slice oN XX.length c11) (.slice a9 (XX++AA).length c9):=by
   rcases IP with e|⟨q,e,hq⟩
   ·exact .inl e
   ·exact .inr ⟨q,e,ae⟩
  have hfin:=agZ (e:=41) (n:=2) (enc:=ahZ) (w0:=w1) (E:=λk=>k=bt) (Rd:=λk=>k<w.heap.size∨k=w1.heap.size+1∨k=w1.heap.size+1+3∨k=w1.heap.size+1+2∨k=w1.heap.size+1+1) (λk hk=>(Tm.o k hk).1) HO.o cB.o ae ae HOW.o hs (λk hk=>ae) (λk e=>by subst e;exact⟨h2,h3⟩) (zt.set 0 (.slice a9 (XX++AA).length c9) aj) (oU Ez (by show w.heap.size+1+1<_;omega) _) ((pU.mono λq hq=>.inr (.inr hq)).trans (aA.setCell _ _ _ _ (.inl rfl))) hn8;simp only[dn]at hfin;have yK:=U hfin;clear hfin hn8 pU g0 gf gl zt;gi_wp2_with fail;show fG _ _ _ _ _∧LQ _ _ _ _ _ _ _ _ _
  rw[Fw.o,aes.o];exact yK.o
 case done=>
  rintro own ls W hls ⟨v,hv,hr,hd,hb⟩ ho hs hK
  have hLS:(ls.flatMap λy=>iF (aL x f) tick y.2)=(bT x f st term within any).flatMap (iF (aL x f) tick):=by
   rw[←hls,Zo]
  rw[hLS]at hr
  have Fy:Hid (∀s∈(bT x f st term within any).flatMap (iF (aL x f) tick),-100000≤s.1∧s.1≤s.2∧s.2≤100000):=U (λs hs=>by
   obtain⟨p,hp,hs⟩:=iB.1 hs;have hz:=Ch.o p hp;have h1:=ZX gz.o hz.ok hz.zero tick s hs;have h2:=(oQ (yA (aL x f) (iD p.1 tick) p.2)).1 s hs
   omega)
  have tN:Hid (((bT x f st term within any).flatMap (iF (aL x f) tick)).length≤1000000000000):=U (by
   have key:∀l:List (aT×Int),(∀p∈l,p∈bT x f st term within any)→(l.flatMap (iF (aL x f) tick)).length≤12500*l.length:=by
    intro l
    induction l with
    |nil=>simp
    |cons a l ih=>
     intro hl;rw[jN,dn,dS];have h1:=ih λp hp=>hl p (by simp[hp]);have hz:=Ch.o _ (hl a aj);have h2:=at_len gz.o hz.ok hz.zero tick;omega
   have:=key _ λp hp=>hp;have h6:=D7.o;have h7:401*(iV within+1)≤401*2002:=Uy _ ae
   omega)
  have qV:Hid (pV (aL x f) (bT x f st term within any) tick=norm ((bT x f st term within any).flatMap (iF (aL x f) tick))):=U rfl;obtain⟨RR,hRR⟩:∃r,Hid ((bT x f st term within any).flatMap (iF (aL x f) tick)=r):=⟨_,U rfl⟩;rw[hRR.o]at hr Fy tN;obtain⟨ao,co,rfl⟩:=bv hr;have hcv:=hv.cell 0;have hlv:=hv.lt;simp only[aK]at hcv;have HR:=U hr;have jK:=U hb;have hwn:=HB0.o.size;clear hr hb hd ho hls hLS hv;gi_wp2_with fail;refine(jH jJ (together _ RR W (jT HR.o) tN.o Fy.o)).mono ?_;rintro e W5 ⟨u,rfl,hO5,hb5⟩;obtain⟨au,cu,rfl⟩:=bv hO5;have hK5:=(hb5.block _ (nu.1 hK).1).trans hK;have iA:=U hO5;clear hO5;obtain⟨NN,QJ⟩:∃r,Hid (norm RR=r):=⟨_,U rfl⟩;rw[QJ.o]at iA;have hW2:w2.heap.size+2≤W.heap.size:=hs;have hbz:=jK.o.size;gi_wp2_with fail;refine⟨aj,.inl ⟨_,_,rfl,sO hK5,?_⟩⟩;have yK:bG w.heap.size (W5.putObj w2.heap.size (.deferred none)) (.slice au NN.length cu) NN:=kJ (alD iA.o _ hK5 rfl) ae;refine⟨_,Lc rfl _ _ _,_,rfl,?_,(Bl.call (Bl.call HB0.o jK.o) hb5).trans (AO (w:=w) (aV _) W5 _ _ _ ae hK5 rfl rfl)⟩;rw[qV.o,hRR.o,QJ.o];exact yK
 case stop=>exact aFt
end
section
attribute [local go_sem] Qv
def A9(s t:Sp):Bool:=decide (t.1≤s.1)&&decide (s.2≤t.2)
theorem aqA{q:α→Bool}{l:List α}(h:k<l.length):(l.take (k+1)).any q=((l.take k).any q || q l[k]):=by
 rw[jF h,agd];simp
theorem aBJ(v u:Value)(xs ys:List Sp)(w:World)(hv:aC Shape.span w v xs)(hu:aC Shape.span w u ys):
  Calls prog 41 #[v,u] w (oK (KQ xs ys) w):=by
 obtain⟨a,c,rfl,hc1,hc2⟩:=hv.shape;obtain⟨a',c',rfl,hd1,hd2⟩:=hu.shape;unfold maxLen at hc2 hd2;have HV:=U hv;have HU:=U hu;clear hv hu;obtain⟨n,hn⟩:∃m,Hid (xs.length=m):=⟨_,U rfl⟩;obtain⟨m,hm⟩:=nm ys.length;rw[hn.o]at hc1 ⊢;rw[hm.o]at hd1 ⊢;have YZ:=HV.o;have YY:=HU.o;rw[hn.o]at YZ;rw[hm.o]at YY;replace HV:=U YZ;replace HU:=U YY;clear YZ YY;go_in;go_wp2
 go_loopw [5] (λs5 wr=>∃i:Nat,i≤n∧s5=.int .i64 i∧Hid (BL w wr)∧Hid ((xs.take i).all (λs=>ys.any (A9 s))=true)) (λs5 _=>n-(intOf s5).toNat)
 case atStart=>exact⟨0,ae,rfl,U (aB _ _),U aj⟩
 case round=>
  obtain⟨i,hi,rfl,HB,HA⟩:=hrel;by_cases hlt:i<n
  ·have lT:i<xs.length:=iH;have i1:(0:Int)≤i:=ae;have i2:(i:Int)<n:=ae;obtain⟨s,hs⟩:=nm (xs[i]);obtain⟨w1,hw1⟩:∃u,u=wr:=⟨wr,rfl⟩;subst hw1;go_wp2
   go_loopw [6,7] (λs6 s7 wr=>∃k:Nat,k≤m∧s7=.int .i64 k∧s6=.bool ((ys.take k).any (A9 s))∧Hid (BL w wr)) (λ_ s7 _=>m-(intOf s7).toNat)
   case atStart=>exact⟨0,ae,rfl,aj,HB⟩
   case round=>
    obtain⟨k,hk,rfl,rfl,fP⟩:=hrel;obtain⟨hd,hhd⟩:∃b,Hid ((ys.take k).any (A9 s)=b):=⟨_,U rfl⟩;rw[hhd.o];by_cases hlk:k<m
    ·have VJ:k<ys.length:=VA;have k1:(0:Int)≤k:=ae;have k2:(k:Int)<m:=ae;have HN:=U (aqA (q:=A9 s) VJ);rw[hhd.o]at HN;obtain⟨b1,o1,e1,c1,c2⟩:=(HV.o.below fP.o).span_at lT;obtain⟨b2,o2,e2,c3,c4⟩:=(HU.o.below fP.o).span_at VJ;subst e1;subst e2;obtain⟨t,ht⟩:=nm (ys[k]);rw[ht.o]at c3 c4 HN;rw[hs.o]at c1 c2;have l1:=fe _ _ c1;have l2:=fe _ _ c3;dsimp only at l1 l2
     cases hd with
     |true=>
      go_wp2
      go_big_quiet (fail)
      go_wp2;go_roundw
      case rel=>exact⟨k+1,ae,aY,by rw[HN.o];rfl,U (Bl.drewN fP.o _)⟩
      case measure=>exact aFF
     |false=>
      by_cases h1:t.1≤s.1
      ·by_cases h2:s.2≤t.2
       ·have HQ:Hid (A9 s t=true):=U (by unfold A9;simp[h1,h2]);go_wp2
        go_big_quiet (fail)
        go_wp2;go_roundw
        case rel=>exact⟨k+1,ae,aY,amf,U (Bl.drewN fP.o _)⟩
        case measure=>exact aFF
       ·have HQ:Hid (A9 s t=false):=U (by unfold A9;simp[h2]);have t2:decide (s.2≤t.2)=false:=xw;clear h2;go_wp2
        go_big_quiet (fail)
        go_wp2;go_roundw
        case rel=>exact⟨k+1,ae,aY,amf,U (Bl.drewN fP.o _)⟩
        case measure=>exact aFF
      ·have HQ:Hid (A9 s t=false):=U (by unfold A9;simp[h1]);have t1:decide (t.1≤s.1)=false:=qO;clear h1;go_wp2
       go_big_quiet (fail)
       go_wp2;go_roundw
       case rel=>exact⟨k+1,ae,aY,amf,U (Bl.drewN fP.o _)⟩
       case measure=>exact aFF
    ·have hkk:k=m:=ae;have HY:Hid (ys.any (A9 s)=hd):=U (by rw[←hhd.o,FY VA]);have HS:=U (jF lT);rw[hs.o]at HS;subst hkk
     cases hd with
     |true=>
      go_wp2;go_roundw
      case rel=>exact⟨i+1,ae,aY,fP,U (by rw[HS.o,List.all_append,HA.o];simp[HY.o])⟩
      case measure=>exact aFF
     |false=>
      go_wp2;go_ret;refine⟨bu ?_,fP.o⟩;unfold KQ
      symm
      rw[aei];intro h;have h1:=mq.1 h s (by rw[←hs.o];exact eu lT);have:ys.any (A9 s)=true:=h1;rw[HY.o]at this;cases this
  ·have hii:i=n:=ae;go_wp2;go_ret;refine⟨bu ?_,HB.o⟩;have h:=HA.o;rw[FY iH]at h;exact h.symm
theorem GR(v u:Value)(xs ys:List (List Sp))(w:World)(hv:aC Shape.span.list w v xs)(hu:aC Shape.span.list w u ys):
  Calls prog 13 #[v,u] w (oK (qx xs ys) w):=by
 obtain⟨a,c,rfl,hc1,hc2⟩:=hv.shape;obtain⟨a',c',rfl,hd1,hd2⟩:=hu.shape;unfold maxLen at hc2 hd2;have HV:=U hv;have HU:=U hu;clear hv hu;by_cases hl:xs.length=ys.length
 ·have hl':((xs.length:Int) != ys.length)=false:=by simp[hl]
  have HL:=U hl;clear hl;have hle:xs.length≤ys.length:=Vx;go_in;go_wp2
  go_loopw [5] (λs5 wr=>∃i:Nat,i≤xs.length∧s5=.int .i64 i∧Hid (BL w wr)∧Hid (∀j,j<i→KQ (aP xs j) (aP ys j)=true)) (λs5 _=>xs.length-(intOf s5).toNat)
  case atStart=>exact⟨0,ae,rfl,U (aB _ _),U λj hj=>ae⟩
  case round=>
   obtain⟨i,hi,rfl,HB,HA⟩:=hrel;by_cases hlt:i<xs.length
   ·have hlt':i<ys.length:=ae;obtain⟨b1,o1,v1,e1,hb1,c1,hL1⟩:=(HV.o.below HB.o).list_at hlt;obtain⟨b2,o2,v2,e2,hb2,c2,hL2⟩:=(HU.o.below HB.o).list_at hlt';subst e1;subst e2;have i1:(0:Int)≤i:=ae;have i2:(i:Int)<xs.length:=ae;have i3:(i:Int)<ys.length:=ae;have HI:=U (And.intro hL1 hL2);obtain⟨a1,k1,rfl,_,_⟩:=hL1.shape;obtain⟨a2,k2,rfl,_,_⟩:=hL2.shape;have HX:Hid (aP xs i=xs[i]∧aP ys i=ys[i]):=U ⟨azS,by simp[aP,bN,hlt']⟩;obtain⟨r,hr⟩:∃b,Hid (KQ xs[i] ys[i]=b):=⟨_,U rfl⟩;clear hL1 hL2
    have HR:Hid (r=false→qx xs ys=false):=U (λh=>by
     rw[aei];intro hw;unfold qx at hw;rw[bW]at hw;have h1:=mq.1 hw.2 i (fD.2 hlt);rw[HX.o.1,HX.o.2,hr.o,h]at h1
     cases h1)
    go_wp2;refine iQ [8] [8] 0 [] [(1,[0,1,2,3,4,5,6,7],8)] [9] [] [(1,[_,_,_,_,_,_,_,_],8,_)] [_] ?_;refine aH (iP ?_)
    (repeat(go_big_quiet_step (fail)));refine aH ?_
    intro n1;have hbn:=Bl.drewN (aB wr.heap.size wr) n1;go_wp2_with fail;refine(aBJ _ _ xs[i] ys[i] (wr.drewN n1) (HI.o.1.below hbn) (HI.o.2.below hbn)).mono ?_;rintro e w2 ⟨rfl,hb2⟩;rw[hr.o];have HB2:=U (Bl.call (Bl.call HB.o hbn) hb2);clear hbn hb2
    cases r with
    |true=>
     go_wp2;refine bS _ rfl (qy ?_)
     (repeat(go_big_quiet_step (fail)));refine aH ?_
     intro n2;go_wp2;go_roundw
     case rel=>exact⟨i+1,ae,aY,U (Bl.drewN HB2.o _),U λj hj=>by
      by_cases e:j=i
      ·subst e;rw[HX.o.1,HX.o.2];exact hr.o
      ·exact HA.o j ae⟩
     case measure=>exact aFF
    |false=>
     go_wp2;refine bS _ rfl (qy ?_)
     (repeat(go_big_quiet_step (fail)));refine aH ?_
     intro n2;go_wp2;go_ret;exact⟨bu (by rw[HR.o (by first|rfl|simp)]),Bl.drewN HB2.o _⟩
   ·have hii:i=xs.length:=ae
    have HE:Hid (qx xs ys=true):=U (by
     unfold qx;rw[bW]
     exact⟨by simpa using HL.o,mq.2 λj hj=>HA.o j (by rw[hii];exact fD.1 hj)⟩)
    go_wp2;go_ret;exact⟨bu Du,HB.o⟩
 ·have hl':((xs.length:Int) != ys.length)=true:=bC;have HE:Hid (qx xs ys=false):=U (by unfold qx;simp[hl]);clear hl;go_in;go_wp2;go_ret;exact⟨bu Du,aB _ _⟩
end
section
attribute [local go_sem] Qv
attribute [local go_sem] Oper.semAt_some
theorem axW{size n:Nat}{xs:List Value}(h:W.ownsRow base e size v n xs)(hb:∀k,v.ownBlock=some k→W'.heap[k]?=W.heap[k]?):W'.ownsRow base e size v n xs:=by
 refine⟨h.1,?_⟩;rcases h.2 with hn|⟨g,cap,cur,rfl,hb',hgg,rest⟩
 ·exact .inl hn
 ·exact .inr ⟨g,cap,cur,rfl,hb',(hb g rfl).trans hgg,rest⟩
theorem Shape.drop{s:Shape α}{b n:Nat}{xs:List α}(h:s.list.reads A W [.slice (some ⟨b,o,none⟩) n c] xs){m:Nat}(hk:k≤xs.length)(hm:m=xs.length-k)(c':Nat)(hc:m≤c')(hc2:c'≤maxLen):s.list.reads A W [.slice (some ⟨b,o+k*s.n,none⟩) m c'] (xs.drop k):=by
 obtain⟨a',c1,e,h1,h2,h3⟩:=h;simp only[oC,qY,qZ]at e;obtain⟨rfl,rfl,rfl⟩:=e;refine⟨some ⟨b,o+k*s.n,none⟩,c',by rw[Cu,hm],by rw[Cu];omega,hc2,λh0=>?_⟩;rw[Cu]at h0;obtain⟨b',o',e,hb,hA,hr⟩:=h3 ae;simp only[Cy,S9,qZ]at e;obtain⟨rfl,rfl⟩:=e;refine⟨b,o+k*s.n,rfl,hb,hA,λj hj=>?_⟩;rw[Cu]at hj;obtain⟨cs,g1,g2⟩:=hr (k+j) ae;refine⟨cs,by rw[List.getElem_drop];exact g1,λi hi=>?_⟩;rw[←g2 i hi,Zy]
 congr 2
 omega
theorem azX(w:World):(sizeOf (prog.elem 77)).run prog w=.ok 3 w:=aF
def U3(y:Value×List fB):Array Value:=#[y.1]
def OG(base:Nat)(own:Nat→Prop)(y:Value×List fB)(W:World):Prop:=qF 82 base W y.1 y.2∧∀k,y.1.ownBlock=some k→¬own k
def ap1(Z:Nat→Prop)(J Jx:(Nat→Prop)→List (Value×List fB)→World→Prop)(own:Nat→Prop)(xs:List (Value×List fB))(W:World)(e:Ending)(W':World):Prop:=
 (e=.returned (.bool true)∧J own xs W'∧W.heap.size≤W'.heap.size∧∀k,(Z k∨own k)→W'.heap[k]?=W.heap[k]?)∨(e=.returned (.bool false)∧Jx own xs W'∧W.heap.size≤W'.heap.size∧∀k,(Z k∨own k)→W'.heap[k]?=W.heap[k]?)
def ap0(Z:Nat→Prop)(J Jx:(Nat→Prop)→List (Value×List fB)→World→Prop)(own:Nat→Prop)(L:List (List fB))(W:World)(e:Ending)(W':World):Prop:=
 ∃(b:Bool) (own':Nat→Prop) (xs:List (Value×List fB)),e=.returned (.bool b)∧W.heap.size≤W'.heap.size∧(∀k,own k→own' k)∧(∀k,own' k→own k∨(W.heap.size≤k∧k<W'.heap.size))∧(∀k,(Z k∨own k)→W'.heap[k]?=W.heap[k]?)∧
  ((b=true∧J own' xs W'∧xs.map (·.2)=L)∨(b=false∧Jx own' xs W'))
theorem ax3(l N0 n0:Nat)(Z:Nat→Prop)(hZ:∀q,Z q→q<N0)(J Jx:(Nat→Prop)→List (Value×List fB)→World→Prop)(S0:List (List fB))(HJ:Hid (E9 J))(yN:Hid (E9 Jx))
  (HY:Hid (∀own pre x W1,J own pre W1→pre.length<S0.length→(∃ys:List (Value×List fB),ys.map (·.2)=S0∧(pre++[x]) <+: ys)→OG N0 own x W1→YieldAt Fence.wide n0 prog l (U3 x) W1 (ap1 Z J Jx own (pre++[x]) W1))) :
  ∀(size:Nat) (all:List fB) (a:Option Addr) (c:Nat) (on:List fB) (vo:Value) (own:Nat→Prop) (pre:List (Value×List fB)) (W:World) (rest:List (List fB)),
   pre.map (·.2)++nS all size on++rest=S0→J own pre W→(∀k,own k→k<W.heap.size)→N0≤W.heap.size→Shape.trip.list.reads Z W [.slice a all.length c] all→qF 82 N0 W vo on→(∀k,vo.ownBlock=some k→own k)→all.length≤1000000→on.length+size≤1000000→
   Calls prog 102 #[.slice a all.length c,.int .i64 size,vo,.func (.yield l) #[] #[]] W (ap0 Z J Jx own (pre.map (·.2)++nS all size on) W):=by
 intro size
 induction size with
 |zero=>
  intro all a c on vo own pre W rest hS hj0 hown hN hall hon zo hal hol;rw[alF]at hS ⊢;have HS:=U hS;have hj0:=U hj0;have HOWN:=U hown;have ky:=U hon;obtain⟨ao,co,rfl⟩:=lu hon;clear hS hown hon zo hall;refine(xW (n:=n0+1)).1 ?_;refine xV func102 rfl trivial ?_ rfl;simp only[ntmps102,jb,dS,fU,Nat.reduceAdd,Nat.reduceSub,kv,kw,kC,kz,fE,gB];have hfn:∀k,Fence.wide.fn k:=(λ_=>trivial);have hdp:¬(Fence.wide.depth.isSome=true):=kL;gi_wp2_with fail;refine(jH jJ (aad _ on W (Jb ky.o) ae)).mono ?_;rintro e w1 ⟨v1,rfl,hO1,hb1⟩;obtain⟨a1,c1,rfl⟩:=bv hO1;have hs1:=hb1.size
  have HF:Hid (OG N0 own (.slice a1 on.length c1,on) w1):=U ⟨EP (e:=82) hO1 hN,λk hk ho=>by
   have:=(hO1.lt k hk).1;have:=HOWN.o k ho
   omega⟩
  have hJ1:=HJ.o _ own _ _ _ hj0.o (aA.of_below hb1) (λ_ h=>.inl h)
  obtain⟨fn,tmps,assign,body,hy,hR⟩:=HY.o own pre (.slice a1 on.length c1,on) w1 hJ1 (by
   have:=gQ List.length HS.o;simp only[dn,fC,dS,fU]at this
   omega) ⟨(pre++[(.slice a1 on.length c1,on)])++rest.map (λc=>(undef,c)),by
    have:=HS.o;simp only[iT,oG,Av,Au,Function.comp_def,List.map_id']at this ⊢
    exact this,PZ _ _⟩ HF.o
  dsimp only[U3]at hy;have HB1:=U hb1;clear hO1 hb1 hJ1 HF;gi_wp2_with fail;refine hR.mono ?_
  have hkk:∀k,(Z k∨own k)→k<W.heap.size:=λk h=>by
   rcases h with h|h
   ·have:=hZ k h;omega
   ·exact HOWN.o k h
  have HKK:=U hkk;clear hkk;rintro e W3 (⟨rfl,hJ3,hs3,hk3⟩|⟨rfl,hJ3,hs3,hk3⟩)
  ·have HR3:=U (And.intro hJ3 (And.intro hs3 hk3));clear hJ3 hs3 hk3 hR hy;gi_wp2;go_ret;obtain⟨g1,g2,g3⟩:=HR3.o;exact⟨true,own,_,rfl,ae,λ_ h=>h,λ_ h=>.inl h,λk hk=>(g3 k hk).trans (HB1.o.block k (HKK.o k hk)),.inl ⟨rfl,g1,aj⟩⟩
  ·have HR3:=U (And.intro hJ3 (And.intro hs3 hk3));clear hJ3 hs3 hk3 hR hy;gi_wp2;go_ret;obtain⟨g1,g2,g3⟩:=HR3.o;exact⟨false,own,_,rfl,ae,λ_ h=>h,λ_ h=>.inl h,λk hk=>(g3 k hk).trans (HB1.o.block k (HKK.o k hk)),.inr ⟨rfl,g1⟩⟩
 |succ size ih=>
  intro all a c on vo own pre W rest hS hj0 hown hN hall hon zo hal hol;have IH:=U ih;have HS:=U hS;have hj0:=U hj0;have HOWN:=U hown;have ky:=U hon;have zW:=U hall;have HOB:=U zo;obtain⟨ao,co,rfl⟩:=lu hon;obtain⟨_,_,-,hc1,hc2⟩:=(Shape.list_far hall).shape;clear hS hown hon zo hall ih
  have hcc:all.length≤c∧c≤maxLen:=by
   obtain⟨_,_,e,h1,h2⟩:=(Shape.list_far zW.o).shape;cases e;exact⟨h1,h2⟩
  obtain⟨aur,VG⟩:=hcc;unfold maxLen at VG;clear hc1 hc2;obtain⟨n,hn⟩:=nm all.length;rw[hn.o]at aur hal ⊢;obtain⟨i0,hi,hz0,hz1,hz2⟩:=dY aks;have w0:IntKind.i64.wrap (((size+1:Nat):Int)-1)=(size:Int):=amh;have q0:(((size+1:Nat):Int)==0)=false:=bC;refine(xW (n:=n0+1)).1 ?_;refine xV func102 rfl trivial ?_ rfl;simp only[ntmps102,jb,dS,fU,Nat.reduceAdd,Nat.reduceSub,kv,kw,kC,kz,fE,gB];have hfn:∀k,Fence.wide.fn k:=(λ_=>trivial);have hdp:¬(Fence.wide.depth.isSome=true):=kL;gi_wp2
  gi_loopw [8,19] (λ_ s19 wr=>∃(k:Nat) (pre':List (Value×List fB)) (own':Nat→Prop),k≤n∧s19=.int .i64 k∧Hid (J own' pre' wr)∧Hid (pre'.map (·.2)++nS (all.drop k) (size+1) on=pre.map (·.2)++nS all (size+1) on)∧W.heap.size≤wr.heap.size∧Hid ((∀k,own k→own' k)∧(∀k,own' k→own k∨(W.heap.size≤k∧k<wr.heap.size))∧∀k,(Z k∨own k)→wr.heap[k]?=W.heap[k]?)) (λ_ s19 _=>n-(intOf s19).toNat)
  case atStart=>exact⟨0,pre,own,ae,rfl,hj0,U rfl,aV _,U ⟨λ_ h=>h,λ_ h=>.inl h,λ_ _=>rfl⟩⟩
  case round=>
   obtain⟨k,pre',own',hk,rfl,gL,nG,hsz,HO⟩:=hrel;by_cases hlt:k<n
   ·have aer:=U (Shape.keep _ zW.o (w':=wr) ⟨hsz,λj hj _=>HO.o.2.2 j (.inl hj)⟩);have lT:k<all.length:=iH;obtain⟨b,o,cs,rfl,hbl,hbN,hrd,hcl⟩:=Shape.list_at aer.o lT;obtain⟨x0,hx0⟩:∃x,Hid (all[k]=x):=⟨_,U rfl⟩;rw[hx0.o]at hrd;have uB:=jC.1 hrd;subst uB;have d0:=hcl 0 aW;have d1:=hcl 1 aW;have d2:=hcl 2 aW;simp only[show Shape.trip.n=3 from rfl,aK,bB,oI]at d0 d1 d2;have YH:=U (ax2 lT size on);rw[hx0.o]at YH;have i1:(0:Int)≤(k:Int):=ae;have i2:(k:Int)<n:=ae;clear hcl hrd;gi_wp2_with fail;have bZ:=U (Bx.new (W:=wr) (t:=82) (vs:=[.int .i64 x0.1,.int .i64 x0.2.1,.int .i64 x0.2.2]) rfl);have hb5:=Bl.alloc (aB wr.heap.size wr) (.cells #[.int .i64 x0.1,.int .i64 x0.2.1,.int .i64 x0.2.2] 82);generalize wr.alloc (.cells #[.int .i64 x0.1,.int .i64 x0.2.1,.int .i64 x0.2.2] 82)=w5 at *;have p0:=bZ.o.cell 0;have p1:=bZ.o.cell 1;have p2:=bZ.o.cell 2;have lp:=bZ.o.lt;simp only[aK,bB]at p0 p1 p2;have eD:=U hb5;clear hb5 d0 d1 d2
    obtain⟨a2,m2,c2,hsl,hrest⟩:∃a2 m2 c2,(∀w,(Instr.slice 77 (.slice (some ⟨b,o,none⟩) n c) (some (.int .i64 ((k:Int)+1))) none none).run prog w=.ok (.slice a2 m2 c2) w)∧Hid (m2=(all.drop (k+1)).length∧Shape.trip.list.reads Z wr [.slice a2 m2 c2] (all.drop (k+1))):=by
     refine⟨if c=k+1 then some ⟨b,o,none⟩else some ⟨b,o+(k+1)*3,none⟩,n-(k+1),c-(k+1),λw=>?_,U ⟨by rw[Cu,hn.o],?_⟩⟩
     ·have i4:(0:Int)≤(k:Int)+1:=ae;have i5:(k:Int)+1≤n:=ae;have e1:((k:Int)+1).toNat=k+1:=ae;rw[run_slice_l w 77 (some ⟨b,o,none⟩) n c aF .i64 ((k:Int)+1) i4 i5];simp only[azX,AB,sliced,e1,MG,JB]
     ·have h1:=aer.o;have hnn:=hn.o;rw[hn.o]at h1;by_cases e:c=k+1
      ·rw[aG e];have e2:all.drop (k+1)=[]:=PS ae;rw[e2];have e3:n-(k+1)=0:=ae;have e4:c-(k+1)=0:=ae;rw[e3,e4];exact⟨_,0,rfl,aj,aj,aj⟩
      ·rw[aD e];exact Shape.drop h1 ae ae _ ae lD
    have TAIL:Hid (∀(w9:World) (v9:Value),BL w5 w9→qF 82 w5.heap.size w9 v9 (on++[x0])→Calls prog 102 #[.slice a2 m2 c2,.int .i64 size,v9,.func (.yield l) #[] #[]] w9 λe w'=>∃(b2:Bool) (kI:Nat→Prop) (xs:List (Value×List fB)),e=.returned (.bool b2)∧((∀j,own j→kI j)∧(∀j,kI j→own j∨(W.heap.size≤j∧j<w'.heap.size))∧∀j,(Z j∨own j)→w'.heap[j]?=W.heap[j]?)∧(W.heap.size≤w'.heap.size)∧((b2=true∧J kI xs w'∧xs.map (·.2)=pre'.map (·.2)++nS (all.drop (k+1)) size (on++[x0]))∨(b2=false∧Jx kI xs w'))):=U (by
     intro w9 v9 dX AV;have Ky:BL wr w9:=Bl.call eD.o dX;have Rb:=Ky.size;have hs5:=eD.o.size;rw[hrest.o.1]
     have hkeep:∀j,(Z j∨own j)→j<wr.heap.size:=λj hj=>by
      rcases hj with h|h
      ·have:=hZ j h;omega
      ·have:=HOWN.o j h;omega
     have hS9:pre'.map (·.2)++nS (all.drop (k+1)) size (on++[x0])++(nS (all.drop (k+1)) (size+1) on++rest)=S0:=by
      have h1:=HS.o;have h2:=nG.o;rw[YH.o]at h2;rw[←h2]at h1;rw[←h1];simp only[yS]
     have gT:∀j,(own' j∨v9.ownBlock=some j)→j<w9.heap.size:=λj hj=>by
      rcases hj with h|h
      ·rcases HO.o.2.1 j h with h|h
       ·have:=HOWN.o j h;omega
       ·omega
      ·exact(AV.lt j h).2
     have hread:Shape.trip.list.reads Z w9 [.slice a2 (all.drop (k+1)).length c2] (all.drop (k+1)):=by
      have h1:=hrest.o.2;rw[hrest.o.1]at h1;exact Shape.keep _ h1 ⟨Rb,λj hj hl=>Ky.block j hl⟩
     refine(IH.o (all.drop (k+1)) a2 c2 (on++[x0]) v9 (λj=>own' j∨v9.ownBlock=some j) pre' w9 _ hS9 ?_ gT ae hread (EP AV ae) (λj hj=>.inr hj) (by rw[Cu];have:=hn.o;omega) (by rw[dn];simp;omega)).mono ?_
     ·refine HJ.o _ _ _ _ _ gL.o (aA.of_below Ky) λj hj=>?_;rcases hj with h|h
      ·exact .inl h
      ·have:=AV.lt j h;exact .inr ⟨ae,this.2⟩
     ·rintro e w' ⟨b2,kI,xs,rfl,h1,h2,h3,h4,h5⟩;refine⟨b2,kI,xs,rfl,⟨λj hj=>h2 j (.inl (HO.o.1 j hj)),λj hj=>?_,λj hj=>?_⟩,ae,h5⟩
      ·rcases h3 j hj with(h|h)|h
       ·rcases HO.o.2.1 j h with h|h
        ·exact .inl h
        ·exact .inr ⟨h.1,ae⟩
       ·have:=AV.lt j h;exact .inr ⟨ae,ae⟩
       ·exact .inr ⟨ae,h.2⟩
      ·have h6:Z j∨own' j∨v9.ownBlock=some j:=by
        rcases hj with h|h
        ·exact .inl h
        ·exact .inr (.inl (HO.o.1 j h))
       exact(h4 j h6).trans ((Ky.block j (hkeep j hj)).trans (HO.o.2.2 j hj)))
    obtain⟨Rj6,TD⟩:∃R:Act→World→Prop,Hid (R=λa' w'=>∃(b2:Bool) (kI:Nat→Prop) (xs:List (Value×List fB)),(Hid ((∀j,own j→kI j)∧(∀j,kI j→own j∨(W.heap.size≤j∧j<w'.heap.size))∧∀j,(Z j∨own j)→w'.heap[j]?=W.heap[j]?)∧Hid (W.heap.size≤w'.heap.size)∧Hid ((b2=true∧J kI xs w'∧xs.map (·.2)=pre'.map (·.2)++nS (all.drop (k+1)) size (on++[x0]))∨(b2=false∧Jx kI xs w')))∧∃us:Nat→Value,a'=Act.mk [.slice (some ⟨b,o,none⟩) n c,.int .i64 ((size:Int)+1),.slice ao on.length co,.func (.yield l) #[] #[],undef,undef,undef,undef,us 8,us 9,us 10,.int .i64 ((size:Int)+1),.bool false,undef,undef,undef,undef,.slice (some ⟨b,o,none⟩) n c,.int .i64 n,.int .i64 k,us 20,us 21,us 22,us 23,us 24,us 25,us 26,us 27,us 28,us 29,us 30,us 31,us 32,us 33,us 34,us 35,us 36,.bool (!b2),us 38].toArray []):=⟨_,U rfl⟩;refine ad1 Rj6 ?_ ?_
    ·refine⟨?_⟩;refine LK [10,12] [7,9,10,12] 1 [0,1,2,3,4,5,6,11] (.two [8] 2 7 (.one 0 [] 9 (.one 0 [] 10 (.one 1 [] 12 (.fin [13])))) 2 9 (.one 0 [] 7 (.one 0 [] 10 (.one 1 [] 12 (.fin [13]))))) [_,_,_,_,_,_,_,_] (.two [_] 2 7 _ (.one 0 [] 9 _ (.one 0 [] 10 _ (.one 1 [] 12 _ (.fin [_])))) 2 9 _ (.one 0 [] 7 _ (.one 0 [] 10 _ (.one 1 [] 12 _ (.fin [_]))))) ?_
     (repeat(go_big_quiet_step (fail)));refine aH (Sy ?_)
     (repeat(go_big_quiet_step (fail)));refine aH ?_
     have PX:=λ(b2:Bool) (kI:Nat→Prop) (xs:List (Value×List fB)) (iZ:World) (L:Prop) (h:(b2=true∧J kI xs iZ∧L)∨(b2=false∧Jx kI xs iZ)) (nq:Nat)=>(h.imp (λ⟨a,b,c⟩=>⟨a,HJ.o _ kI _ _ _ b (aA.drewN _ _ nq) (λ_ h=>.inl h),c⟩) (λ⟨a,b⟩=>⟨a,yN.o _ kI _ _ _ b (aA.drewN _ _ nq) (λ_ h=>.inl h)⟩):(b2=true∧J kI xs (iZ.drewN nq)∧L)∨(b2=false∧Jx kI xs (iZ.drewN nq)));have jm:=U (λ(w6:World) (h:BL w5 w6)=>Jb (axW (W:=W) (W':=w6) ky.o λj hj=>(((Bl.call eD.o h).block j (by have:=HOWN.o j (HOB.o j hj);omega)).trans (HO.o.2.2 j (.inr (HOB.o j hj))))));refine⟨?_,?_⟩
     ·intro w6 hb6;go_wp2_with fail;refine(aad _ on w6 (jm.o w6 hb6) ae).mono ?_;rintro e w7 ⟨v7,rfl,sF,bq⟩;obtain⟨a7,c7,rfl⟩:=bv sF;go_wp2;refine dZ (Bl.call hb6 bq) (uV (aH ?_));intro w8 dX;have Vn:=gV sF dX;have hs6:=hb6.size;have hs8:=bq.size;have Rb:=dX.size;go_wp2;refine dZ (Bl.alloc dX _) (wG ?_);go_wp2_with (at_builtin;go_loud (refine apo (Vn.alloc _) ⟨w8.heap.size,0,none⟩ 1 1 [.int .i64 x0.1,.int .i64 x0.2.1,.int .i64 x0.2.2] hi hz0 hz1 hz2 ?_);intro v' w4 hown' hgrow _)
      refine bS _ rfl (wG ?_);have hb4:=gJ (Bl.alloc (Bl.call (Bl.call hb6 bq) dX) _) hgrow bC (λj hj=>by have:=(sF.lt j hj).1;omega);have hO4:qF 82 w5.heap.size w4 v' (on++[x0]):=EP (xk (e:=82) (enc:=CV) (x:=x0) hown' rfl rfl) hs6;go_wp2_with fail;refine(TAIL.o w4 v' hb4 hO4).mono ?_;rintro e iZ ⟨b2,kI,xs,rfl,h1,h2,h3⟩;have H1:=U h1;have H2:=U h2;have H3:=U h3;clear h1 h2 h3;go_wp2;refine bS _ rfl (Xa ?_)
      (repeat(go_big_quiet_step (fail)));refine aH ?_
      intro nq;simp only[iI];rw[TD.o];exact⟨b2,kI,xs,⟨U ⟨H1.o.1,by simpa using H1.o.2.1,by simpa using H1.o.2.2⟩,U (by simpa using H2.o),U (PX _ _ _ _ _ H3.o nq)⟩,Dc _ _ _ rfl⟩
     ·intro w6 hb6;go_wp2;refine dZ (Bl.alloc hb6 _) (uV (aH ?_));intro w7 bV;have II:=λj u (hj:([.int .i64 x0.1,.int .i64 x0.2.1,.int .i64 x0.2.2]:List Value)[j]?=some u)=>(bV.cell (p:=(⟨w6.heap.size,0,none⟩:Addr).add j) (by rw[JB];simp)).trans (AP w6 [.int .i64 x0.1,.int .i64 x0.2.1,.int .i64 x0.2.2] 82 j u hj);have hs6:=hb6.size;have hs7:=bV.size;simp only[fH]at hs7;have ji:=Bl.call (Bl.alloc hb6 (.cells #[.int .i64 x0.1,.int .i64 x0.2.1,.int .i64 x0.2.2] 82)) bV;go_wp2_with fail;refine(aad _ on w7 (jm.o w7 ji) ae).mono ?_;rintro e w8 ⟨v7,rfl,sF,bq⟩;obtain⟨a7,c7,rfl⟩:=bv sF;have hc8:=λj u hj=>(bq.cell (p:=(⟨w6.heap.size,0,none⟩:Addr).add j) (by rw[Addr.add_mid];dsimp only;omega)).trans (II j u hj);have hs8:=bq.size;go_wp2;refine dZ (Bl.call bV bq) (wG ?_);go_wp2_with (at_builtin;go_loud (refine mH _ rfl _ _ 77 rfl w7.heap.size 82 i0 (.agg #[.int .i64 0,.int .i64 0,.int .i64 0]) 3 24 underlying77 hi hz0 hz1 hz2 rfl aW _ _ _ rfl sF ⟨w6.heap.size,0,none⟩ 1 1 [.int .i64 x0.1,.int .i64 x0.2.1,.int .i64 x0.2.2] rfl rfl hc8 zI lD ae (by first|omega|(simp;omega)) ?_);intro v' w4 hown' hgrow _)
      refine bS _ rfl (wG ?_);have hb4:=gJ (Bl.call ji bq) hgrow ae (λj hj=>by have:=(sF.lt j hj).1;omega);have hO4:qF 82 w5.heap.size w4 v' (on++[x0]):=EP (xk (e:=82) (enc:=CV) (x:=x0) hown' rfl rfl) ae;go_wp2_with fail;refine(TAIL.o w4 v' hb4 hO4).mono ?_;rintro e iZ ⟨b2,kI,xs,rfl,h1,h2,h3⟩;have H1:=U h1;have H2:=U h2;have H3:=U h3;clear h1 h2 h3;go_wp2;refine bS _ rfl (Xa ?_)
      (repeat(go_big_quiet_step (fail)));refine aH ?_
      intro nq;simp only[iI];rw[TD.o];exact⟨b2,kI,xs,⟨U ⟨H1.o.1,by simpa using H1.o.2.1,by simpa using H1.o.2.2⟩,U (by simpa using H2.o),U (PX _ _ _ _ _ H3.o nq)⟩,Dc _ _ _ rfl⟩
    ·refine⟨?_⟩;intro _ w6 hj;rw[TD.o]at hj;obtain⟨b2,kI,xs,⟨H1,H2,H3⟩,us6,ha⟩:=hj;subst ha;clear TD Rj6;have h2:=H2.o;clear p0 p1 p2 lp TAIL
     cases b2 with
     |false=>
      gi_wp2;go_ret;rcases H3.o with⟨h,_⟩|⟨_,h⟩
      ·cases h
      ·exact⟨false,kI,xs,rfl,H2.o,H1.o.1,H1.o.2.1,H1.o.2.2,.inr ⟨rfl,h⟩⟩
     |true=>
      gi_wp2;go_roundw
      case rel=>
       rcases H3.o with⟨_,h4,h5⟩|⟨h,_⟩
       ·exact⟨_,_,_,_,⟨k+1,ae,aj,xs,kI,U h4,U (by rw[h5];have:=nG.o;rw[YH.o]at this;rw[←this,yS]),H1⟩,rfl,rfl,rfl,rfl⟩
       ·cases h
      case measure=>exact aFF
   ·have hkk:k=n:=ae;subst hkk;gi_wp2;go_ret;refine⟨true,own',pre',rfl,hsz,HO.o.1,HO.o.2.1,HO.o.2.2,.inl ⟨rfl,gL.o,?_⟩⟩;have:=nG.o;rw[show all.drop k=[]from PS iH]at this;simpa[nS]using this
end
section
attribute [local go_sem] Qv arh
attribute [local go_sem] Oper.semAt_some
def mR(ss:List dx)(pre:List (Value×aT×Int))(j:Nat):List Sp:=pre.flatMap λy=>iF ss j y.2
theorem asB(ss:List dx)(pre:List (Value×aT×Int))(y:Value×aT×Int)(j:Nat):mR ss (pre++[y]) j=mR ss pre j++iF ss j y.2:=by simp[mR,mO]
theorem ahq(x:aJ)(f:aQ)(st:Int)(C:Nat)(cs:List Value)(term:Nat)(aw:Option Addr)(cw:Nat)(within:List Sp)(any:Bool)(w:World)(hF:mI x f st C cs w)(hx:fM x)(hf:qG x f)(cO:gG x f=false)(hl:(aL x f).length≤1000000)(hW:Aq w aw cw within)(Ns:(term:Int)≤x.ticks):
  Calls prog 31 #[.pointer (some ⟨C,0,none⟩),term,.slice aw within.length cw,.bool any] w λe w'=>∃v,e=.returned v∧aC Shape.span.list w' v (qJ (aL x f) x.ticks (bT x f st term within any))∧BL w w':=by
 have HF:=U hF;have tV:=U (And.intro hx (And.intro hf cO));have HW:=U hW;have HP:=U (xY hx hf);have Ch:=U (λp (h:p∈bT x f st term within any)=>GL hx hf cO (λ_=>hW.nrm) h);have D7:=U (anp (xY hx hf) st term within any);have gz:Hid (∀y∈aL x f,-8≤y.2.2∧y.2.2≤8):=U (λy hy=>ajm);have hcn:iV within≤2001:=by have:=hW.len;unfold iV;omega
 obtain⟨v6,s1,s2⟩:=hF.list;have yP:=U s2;have tO:=U s1;have Dl:=(hF.m.bx.cell 20).trans hF.m.ticks;have hlC:=hF.m.bx.lt;obtain⟨tk,htk⟩:∃t:Nat,Hid (x.ticks=(t:Int)):=⟨x.ticks.toNat,U ajr⟩;have htb:1≤tk∧tk≤400:=by have:=HP.o.ticks;have:=htk.o;omega
 have aD3:(term:Int)≤tk:=by have:=htk.o;omega
 rw[htk.o]at Dl;obtain⟨n,hn⟩:∃n:Nat,Hid (tk+1=n):=⟨_,U rfl⟩;have mi:Hid ((x.ticks+1).toNat=n):=U (by have:=htk.o;have:=hn.o;omega);have hnb:2≤n∧n≤401:=iH;obtain⟨_,_,ew,hw1,hw2⟩:=hW.lst.shape;cases ew;unfold maxLen at hw2;have wn:IntKind.i64.wrap ((tk:Int)+1)=(n:Int):=by rw[dE _ ae];have:=hn.o;omega
 clear hF hx hf cO hW s1 s2;obtain⟨i0,hi,hz0,hz1,hz2⟩:=dY Rj;refine(xW (n:=3)).1 ?_;refine zb func31 rfl trivial ?_ rfl;simp only[ntmps31,jb,dS,fU,Nat.reduceAdd,Nat.reduceSub,kv,kw,kC,kz,fE,gB];have hfn:∀k,Fence.wide.fn k:=λ_=>trivial;have hdp:¬(Fence.wide.depth.isSome=true):=kL;have X40:=Bx.new (W:=w) (t:=88) (vs:=[.pointer (some ⟨C,0,none⟩)]) rfl;have eP:=Bl.alloc (aB w.heap.size w) (.cells #[.pointer (some ⟨C,0,none⟩)] 88);have lCA:C<(w.alloc (.cells #[.pointer (some ⟨C,0,none⟩)] 88)).heap.size:=by have:=eP.size;omega
 obtain⟨w3,hrun,hown,hgr⟩:=RU (P:=prog) (w:=w.alloc (.cells #[.pointer (some ⟨C,0,none⟩)] 88)) (w.heap.size+1) 33 54 i0 (.slice none 0 0) 1 underlying33 hi hz0 hz1 .i64 .i64 n ae Lf lD aj
 have hcells:(madeCells (Value.slice none 0 0).cells (n*1)).toList=List.replicate n (.slice none 0 0):=by
  refine oD WJ λj h1 h2=>?_;simp[madeCells,Value.cells,Uw]
 rw[hcells]at hown;simp only[fH]at hown;have hb3:Below (w.alloc (.cells #[.pointer (some ⟨C,0,none⟩)] 88)).heap.size (w.alloc (.cells #[.pointer (some ⟨C,0,none⟩)] 88)) w3:=gJ (aB _ _) hgr (aV _) (λj hj=>MR);have F3:=U (gY.made (L:=mR (aL x f) []) hown (λj _=>rfl));have UO:=X40.next hb3;have r40:=UO.cell 0;have r4l:=UO.lt;simp only[aK]at r40;have hB3:=U (Bl.call eP hb3);have hz3:w.heap.size+1<w3.heap.size:=F3.o.lt;have hzB:=hB3.o.size;have aX:=U UO;clear hown hgr hcells hb3 UO X40;gi_wp2_with fail;have hb1:=Bl.alloc hB3.o (.cells #[.slice (some ⟨w.heap.size+1,0,none⟩) n n] 33);refine(jH jJ (U2 C term aw within.length cw any _)).mono ?_;rintro e w2 ⟨rfl,kW,hBa,hBw,uD,hb2⟩;simp only[fH]at kW hBa hBw uD;have qC:=U (λn=>adK x f st C cs term aw cw within any (w3.heap.size+1) (w3.heap.size+1+3) (w3.heap.size+1+2) (w3.heap.size+1+1) n w w2 HF.o tV.o.1 tV.o.2.1 tV.o.2.2 hl (Bl.call hb1 hb2).size (λq hq=>(Bl.call hb1 hb2).block q hq) kW hBa hBw uD HW.o (by have:=htk.o;omega));have hn2:w3.heap.size+5≤w2.heap.size:=aa9;have fF:=U ((Bx.new (W:=w3) (t:=33) (vs:=[.slice (some ⟨w.heap.size+1,0,none⟩) n n]) rfl).next hb2)
 have HB2:=U (Bl.call (Bl.alloc (aB w3.heap.size w3) (.cells #[.slice (some ⟨w.heap.size+1,0,none⟩) n n] 33)) hb2);have tH:=U (F3.o.below HB2.o);clear kW hBa hBw uD hb1 hb2 F3 r40 r4l hrun;gi_wp2_with fail;obtain⟨bo,Nh⟩:∃b,Hid (b=w3.heap.size):=⟨_,U rfl⟩;obtain⟨bJ,Er⟩:∃b,Hid (b=w.heap.size+1):=⟨_,U rfl⟩;rw[←Er.o]at tH fF hz3 ⊢;refine(λ(h:∃A:Nat→(Value×aT×Int)→Act,_)=>h.elim λ_ h=>h) ?_;apply Exists.intro
 refine E8 (gf:=113) (lb:=#[.pointer (some ⟨w3.heap.size+1,0,none⟩),.pointer (some ⟨w3.heap.size+1+3,0,none⟩),.pointer (some ⟨w3.heap.size+1+2,0,none⟩),.pointer (some ⟨w3.heap.size+1+1,0,none⟩)]) rfl (fo func113 aF rfl) (qC.o _) (λq hq=>ae) (λ_=>rfl)
  (λown pre W=>(∃uf,gY bJ bJ n (mR (aL x f) pre) uf W∧∀j q,j<n→(uf j).ownBlock=some q→¬own q∧w2.heap.size+2≤q)∧Below bJ w3 W∧Bx w3.heap.size [.slice (some ⟨bJ,0,none⟩) n n] W) ?hI (λ_ _ _ _=>False) ?hIx ?h0
  (λown pre y a1 W=>∃bt:Nat,(Bx bt [y.1] W∧w2.heap.size+2≤bt∧¬own bt)∧Shape.nod.list.list.reads (λq=>q≠w2.heap.size+1) W [y.1] y.2.1∧y.2∈bT x f st term within any∧(pre.length<(bT x f st term within any).length∧pre.map (·.2) <+: bT x f st term within any)∧((∃uf,gY bJ bJ n (mR (aL x f) pre) uf W∧∀j q,j<n→(uf j).ownBlock=some q→¬own q∧w2.heap.size+2≤q∧q≠bt)∧Below bJ w3 W∧Bx w3.heap.size [.slice (some ⟨bJ,0,none⟩) n n] W)∧a1=?w bt y) ?hAx ?assign ?body ?done ?stop
 case hI=>
  rintro own own' pre A B ⟨⟨uf,hF,hR⟩,hbb,hx⟩ ho hs ht hw
  have no:∀q,q<w2.heap.size→¬(own q∨q=w2.heap.size∨q=w2.heap.size+1):=λq hq h=>by
   rcases h with h|h|h
   ·exact aFr
   ·omega
   ·omega
  refine⟨⟨uf,hF.turns ht (no _ ae) (λj q hj hq h=>?_),λj q hj hq=>⟨λh=>?_,(hR j q hj hq).2⟩⟩,aA.below hbb ht ae (λq h=>?_),hx.turns ht (no _ ae)⟩
  ·have:=hR j q hj hq;rcases h with h|h|h
   ·exact this.1 h
   ·omega
   ·omega
  ·have h1:=hR j q hj hq;rcases hw q h with h2|h2
   ·exact h1.1 h2
   ·exact aDi
  ·rcases h with h|h|h
   ·exact aFr
   ·omega
   ·omega
 case hIx=>exact aFs
 case h0=>exact⟨⟨_,tH.o,λj q hj hq=>MS⟩,HB2.o.mono ae,fF.o⟩
 case hAx=>
  rintro own pre y a1 A B ⟨bt,⟨h1,h2,h3⟩,h4,h5,h5b,⟨⟨uf,hF,hR⟩,hbb,hx⟩,h10⟩ ho ht hlt hsz;exact⟨bt,⟨h1.turns ht (λe=>ae),h2,h3⟩,Shape.keep _ h4 (ht.same λb hb _=>hb),h5,h5b,⟨⟨uf,hF.turns ht (λe=>ae) (λj q hj hq e=>by have:=(hR j q hj hq).2.1;omega),hR⟩,aA.below hbb ht ae (λq h=>ae),hx.turns ht (λe=>ae)⟩,h10⟩
 case assign=>
  rintro ll own pre y W hi' ho hs hlt ⟨ys,hys,hpre⟩ hfa hnc;have HI:=U hi';clear hi';have hpm:=hpre.map (λy:Value×aT×Int=>y.2);rw[show ys.map (λy:Value×aT×Int=>y.2)=bT x f st term within any from hys,iT]at hpm;have HM:=U (hpm.subset aj:y.2∈bT x f st term within any);have DY:=U (And.intro (by have:=hpm.length_le;simp at this;omega:pre.length<(bT x f st term within any).length) ((PZ _ _).trans hpm));have HT:=U (Shape.mono _ (Sz hfa) (A':=λq=>q≠w2.heap.size+1) λb _ ⟨o,u,h⟩ e=>WW);obtain⟨av,cv,e1,_,_⟩:=(kK HT.o).shape;have jL:=U e1;clear hpre hpm hys hfa hnc;unfold CU;rw[e1];clear e1;gi_wp2;rw[←jL.o];have hbl:BL W (W.alloc (.cells #[y.1] 139)):=Bl.alloc (aB _ _) _;have hX1:=Bx.new (W:=W) (t:=139) (vs:=[y.1]) rfl
  have Gn:fG w2.heap.size (λk=>k<w.heap.size∨k=w3.heap.size+1∨k=w3.heap.size+1+3∨k=w3.heap.size+1+2∨k=w3.heap.size+1+1) own W (W.alloc (.cells #[y.1] 139)):=fG.of_below hbl λq hq=>by
   rcases hq with h|h|h|h
   ·omega
   ·exact(ho q h).2
   ·omega
   ·omega
  obtain⟨⟨uf,hF,hR⟩,hbb,hx⟩:=HI.o
  have hI2:(∃uf,gY bJ bJ n (mR (aL x f) pre) uf (W.alloc (.cells #[y.1] 139))∧∀j q,j<n→(uf j).ownBlock=some q→¬own q∧w2.heap.size+2≤q∧q≠W.heap.size)∧Below bJ w3 (W.alloc (.cells #[y.1] 139))∧Bx w3.heap.size [.slice (some ⟨bJ,0,none⟩) n n] (W.alloc (.cells #[y.1] 139)):=
   ⟨⟨uf,hF.below hbl,λj q hj hq=>⟨(hR j q hj hq).1,(hR j q hj hq).2,aDi⟩⟩,hbb.trans (hbl.mono ae),hx.next hbl⟩
  have hTn:=Shape.below HT.o hbl;clear hF hR hbb hx HI;have hno:¬own W.heap.size:=λh=>VD;generalize W.alloc (.cells #[y.1] 139)=W2 at *
  (try unfold BL at *);generalize W.heap.size=bt at *
  exact⟨Gn,bt,⟨hX1,hs,hno⟩,hTn,HM.o,DY.o,hI2,rfl⟩
 case body=>
  rintro ll own pre y a1 W ⟨bt,⟨h1,h2,h3⟩,h4,h5,⟨h5b,h5c⟩,⟨⟨uf,hF,hR⟩,hbb,zt⟩,rfl⟩ ho hs hlt _;obtain⟨yv,yT,yz⟩:=y;have HT:Hid (Shape.nod.list.list.reads (λq=>q≠w2.heap.size+1) W [yv] yT):=U h4;have HZ:Hid (Ib x f (yT,yz)):=U (Ch.o _ h5);obtain⟨av,cv,rfl,_,_⟩:=(kK HT.o).shape;have HT2:=U (kK HT.o)
  have bE:Hid (∀j,(mR (aL x f) pre j).length≤100000000000):=U (λj=>by
   have key:∀l:List (Value×aT×Int),(∀p∈l.map (·.2),p∈bT x f st term within any)→(mR (aL x f) l j).length≤12500*l.length:=by
    intro l;unfold mR
    induction l with
    |nil=>simp
    |cons a l ih=>
     intro hl;rw[jN,dn,dS];have h1:=ih λp hp=>hl p (by simp[hp]);have hz:=Ch.o _ (hl a.2 aj);have h2:=at_len gz.o hz.ok hz.zero j;omega
   have:=key pre λp hp=>h5c.subset hp;have h6:=D7.o;have h7:401*(iV within+1)≤401*2002:=Uy _ ae
   omega)
  have nz:=U (λj=>at_len gz.o HZ.o.ok HZ.o.zero j);have FD:Hid (∀j,mR (aL x f) (pre++[((.slice av yT.length cv,yT,yz):Value×aT×Int)]) j=mR (aL x f) pre j++iF (aL x f) j (yT,yz)):=U (λj=>asB _ _ _ j);have vB:Hid (∀j,iF (aL x f) j (yT,yz)=norm (yA (aL x f) (iD yT j) yz)):=U (λj=>rfl);have Hr:Hid (yT.length=n):=U (by have:=HZ.o.len;have:=mi.o;dsimp only at *;omega);have Da:=hbb.size;have Ad:=U hF;have HRR:=U hR;have jK:=U hbb;have Pv:=U zt;have HOW:=U ho;have rb:=h1.cell 0;have lb:=h1.lt;simp only[aK]at rb;have hrb:W.cell? ⟨bt,0,none⟩=some (.slice av yT.length cv):=rb;clear h4 h5 h5b h5c HT hF hR hbb zt ho rb;gi_wp2_with fail;refine(jH (E5 _) (anb _ yT W HT2.o HZ.o.ok)).mono ?_;rintro e w4 ⟨u,rfl,hu,hb4⟩;obtain⟨au,cu,rfl,hu1,hu2⟩:=(kK hu).shape;have hAT:(allT yT).length=n:=by simp[allT];exact Hr.o
  rw[hAT]at hu hu1 ⊢;unfold maxLen at hu2;have HU:=U hu;clear hu;have X94:=Pv.o.next hb4;have s9:=X94.cell 0;have sl9:=X94.lt;simp only[aK]at s9;have Tp:=U (Ad.o.below hb4);have bX:=U hb4;have EG:=hb4.size;clear hAT hb4 h1 lb hrb;gi_wp2
  gi_loopw [36] (λs36 wr=>∃(i:Nat) (ug:Nat→Value),i≤n∧s36=.int .i64 i∧Hid (gY bJ bJ n (λj=>if j<i then mR (aL x f) pre j++iF (aL x f) j (yT,yz)else mR (aL x f) pre j) ug wr)∧Hid (∀j q,j<n→(ug j).ownBlock=some q→(uf j).ownBlock=some q∨w4.heap.size≤q)∧Hid (aA (λq=>q=bJ∨∃j,j<n∧(uf j).ownBlock=some q) w4 wr)) (λs36 _=>n-(intOf s36).toNat)
  case atStart=>exact⟨0,uf,tX _,rfl,U (Tp.o.same λj _=>aj),U (λj q _ h=>.inl h),U (aA.refl _ _)⟩
  case round=>
   clear Tp;obtain⟨i,ug,hi2,rfl,HG,Ae,Cg⟩:=hrel;have hBw:bJ<w3.heap.size:=hz3;have QN:∀j q,j<n→(uf j).ownBlock=some q→w2.heap.size+2≤q∧q<W.heap.size:=λj q hj hq=>⟨(HRR.o j q hj hq).2.1,((Ad.o.sp j hj).lt q hq).2⟩
   have fP:=U (aA.below (jK.o.trans (bX.o.mono (by omega:bJ≤W.heap.size))) Cg.o ae (λq h=>by
    rcases h with h|⟨j,hj,h⟩
    ·omega
    ·have:=QN j q hj h;omega))
   have KO:=fP.o.size;have aEb:=Cg.o.size;have hwB:w.heap.size<bJ:=by have:=Er.o;omega
   have Y4:=aX.o.block (fP.o.block _ hwB) KO
   have Y9:=(Pv.o.next bX.o).turns Cg.o (λh=>by
    rcases h with h|⟨j,hj,h⟩
    ·omega
    ·have:=QN j _ hj h;omega)
   have c4:=Y4.cell 0;have l4:=Y4.lt;have c9:=Y9.cell 0;have l9:=Y9.lt;simp only[aK]at c4 c9;by_cases hit:i<n
   ·have HFr:=U (HF.o.same (W:=wr) ae (λq hq=>(fP.o.block q ae).trans (hB3.o.block q hq)));obtain⟨v7,s1,s2⟩:=HFr.o.list;have HSr:=U s2;have TF:=U s1
    have HUr:=kK (Shape.keep _ HU.o (Cg.o.same λb hb _ h=>by
     rcases h with h|⟨j,hj,h⟩
     ·omega
     ·have:=QN j b hj h;omega))
    have hai:i<(allT yT).length:=by simp[allT];have:=Hr.o;omega
    obtain⟨b2,o2,v2,e2,lV,d2,hv2⟩:=HUr.list_at hai;cases e2
    have HAI:Hid ((allT yT)[i]=iD yT i):=U (by
     have:=ag1 yT (k:=i) (by have:=Hr.o;omega);rw[di hai]at this
     exact P9 this)
    rw[HAI.o]at hv2;have Pq:=U hv2;obtain⟨a2,c2,rfl,_,_⟩:=hv2.shape;have uG:=HG.o.cell i hit;have AZ:=HG.o.lt;have vP:=HG.o.sp i hit;simp only[agr,aD,if_false]at vP;obtain⟨a5,c5,e5⟩:=bv vP;have Q6:∀q,(ug i).ownBlock=some q→q≠bJ:=λq hq=>HG.o.ne i q hit hq;obtain⟨OW,ig⟩:∃OW:Nat→Prop,Hid (∀q,OW q↔((ug i).ownBlock=some q∨q=bJ)):=⟨_,U (λq=>Iff.rfl)⟩
    have akc:∀q,(ug i).ownBlock=some q→w2.heap.size+2≤q:=λq hq=>by
     rcases Ae.o i q hit hq with h|h
     ·exact(QN i q hit h).1
     ·omega
    have n9:¬OW w3.heap.size:=λh=>by
     rcases(ig.o _).1 h with h|h
     ·have:=akc _ h;omega
     ·omega
    have n4:¬OW w.heap.size:=λh=>by
     rcases(ig.o _).1 h with h|h
     ·have:=akc _ h;omega
     ·omega
    have JI:=U e5;rw[e5]at uG vP;have HST:=U vP;have hXi:=bE.o i;have hAi:=nz.o i;have aCN:=U (FD.o i);have aoi:=U (vB.o i);have hok:ib yT:=HZ.o.ok;have hzz:-200≤yz∧yz≤200:=HZ.o.zero;have Nr:(aN yT i).length=(aL x f).length:=HZ.o.stg i (by have:=mi.o;omega)
    have vG:=U (λ(W':World) (hb:BL wr W')=>an5 C cs v7 (.slice a2 (iD yT i).length c2) (aL x f) (iD yT i) yz W' (HFr.o.m.bx.next hb) TF.o (HSr.o.below hb) (Pq.o.below hb) (by rw[Qr];exact Nr) (by
     have:=ab0 (ss:=aL x f) (zero:=yz) (UT hok i) (iD yT i).length;have h2:=(hok.pos (k:=i) (by have:=Hr.o;omega)).2;rw[Qr]at this ⊢
     omega) (UT hok i) hzz gz.o)
    clear e5 vP s1 s2 hv2 HUr HAI hai Nr;obtain⟨la,hla⟩:∃l,Hid (mR (aL x f) pre i=l):=⟨_,U rfl⟩;rw[hla.o]at uG HST JI hXi;have j1:(0:Int)≤(i:Int):=ae;have j2:(i:Int)<n:=ae;gi_wp2;refine anU (λw'=>∃p:Tw OW wr,w'=p.w) [13,15] [12,13,15] 1 [0,1] [(0,[2,3,4,5,6,7,8,9,10,11],12),(1,[],13),(0,[14],15)] [] [_,_] [(0,[_,_,_,_,_,_,_,_,_,_],12,_),(1,[],13,_),(0,[_],15,_)] [] ?_ ?_
    ·exact aFv
    (repeat(go_big_quiet_step (fail)));refine aH (an1 ?_)
    (repeat(go_big_quiet_step (fail)));refine aH ?_
    intro w6 hb6;go_wp2_with fail;refine(vG.o w6 hb6).mono ?_;rintro e w7 ⟨um,rfl,hOm,bV⟩;obtain⟨a7,c7,rfl⟩:=bv hOm;rw[←aoi.o]at hOm ⊢;have xL:=U (jT hOm);obtain⟨ub,hlb⟩:∃l,Hid (iF (aL x f) i (yT,yz)=l):=⟨_,U rfl⟩;rw[hlb.o]at xL hAi ⊢;have ji:=Bl.call hb6 bV;have QO:=fq HST.o ji;have uJ:=ji.size;have UV:=(ji.cell (p:=⟨bJ,i,none⟩) AZ).trans uG;go_wp2;refine sV ji (λw' h=>CT.of (aA.of_below (Bl.call ji h))) (anZ ?_);go_wp2_with (at_builtin;go_loud (refine Ov _ rfl _ _ rfl bJ (.slice a5 la.length c5) (.slice a7 ub.length c7) la ub rfl QO rfl xL.o ae ae ?_);intro v9 w9 Ez Gq IP)
    have pU:aA (λq=>(ug i).ownBlock=some q) wr w9:=(aA.of_below ji).trans (aA.grown Gq (λq hq=>by rw[JI.o];exact hq));have fJ:=U (pU.mono (own':=OW) (λq hq=>(ig.o q).2 (.inl hq)));have KZ:¬(ug i).ownBlock=some bJ:=λh=>Q6 bJ h rfl;have MQ:=(iL (a:=⟨bJ,i,none⟩) (pU.block bJ AZ KZ)).trans uG
    have Oy:w9.frozen? ⟨bJ,i,none⟩=false:=by
     have:=HG.o.free i;unfold World.frozen? at this ⊢;rw[pU.block bJ AZ KZ];exact this
    have Ny:bJ<w9.heap.size:=nH AZ pU.size;have lJ:=U pU;have mK:=U Ez;have mJ:=U IP;obtain⟨a9,c9',rfl⟩:=bv Ez;clear pU KZ Ez Gq IP UV QO;refine wD _ rfl (λw' h=>CT.of (fJ.o.trans (aA.of_below h))) (an0 ?_)
    (repeat(go_big_quiet_step (fail)));refine aH ?_
    intro nq;go_wp2;refine wD _ rfl (λw' h=>CT.of (((fJ.o.trans (aA.drewN _ _ nq)).trans (aA.setCell _ _ _ _ ((ig.o _).2 (.inr rfl)))).trans (aA.of_below h))) (anY ?_);simp only[iI];have htd:aA (λq=>(ug i).ownBlock=some q) wr (w9.drewN nq):=lJ.o.trans (aA.drewN _ _ nq)
    have hv:∀q,(Value.slice a9 (la++ub).length c9').ownBlock=some q→q≠bJ∧((ug i).ownBlock=some q∨wr.heap.size≤q):=λq hq=>by
     rcases mJ.o with e|⟨k',e,hle⟩
     ·have:(ug i).ownBlock=some q:=by rw[JI.o,←e];exact hq
      exact⟨Q6 q this,.inl this⟩
     ·rw[hq]at e;cases e;exact⟨ae,.inr ae⟩
    have hset:=(HG.o.set (v':=.slice a9 (la++ub).length c9') (ys:=la++ub) hit htd (λh=>Q6 bJ h rfl) (λj q hj e hq h=>HG.o.apart j i q hj hit e hq h) (fq mK.o (Bl.drewN (aB _ _) nq)) hv);have A7:aA OW wr ((w9.drewN nq).setCell ⟨bJ,i,none⟩ (.slice a9 (la++ub).length c9')):=(fJ.o.trans (aA.drewN _ _ nq)).trans (aA.setCell _ _ _ _ ((ig.o _).2 (.inr rfl)));have tQ:=U hset;have yQ:=U A7;have HVV:=U hv;clear hset A7 htd hv MQ Oy Ny;simp only[dn]at tQ yQ HVV;gi_wp2;go_roundw
    case rel=>
     refine⟨i+1,_,ae,aY,U (tQ.o.same λj _=>?_),U (λj q hj hq=>?_),U (Cg.o.trans2 yQ.o λq h=>?_)⟩
     ·by_cases e:j=i
      ·subst e;rw[aG ae,aG rfl,hla.o,hlb.o]
      ·rw[aD e];by_cases e2:j<i
       ·rw[aG e2,aG ae]
       ·rw[aD e2,aD ae]
     ·by_cases e:j=i
      ·subst e;simp only[aG]at hq;rcases(HVV.o q hq).2 with h|h
       ·exact Ae.o _ q hj h
       ·exact .inr ae
      ·simp only[aD e]at hq;exact Ae.o j q hj hq
     ·rcases(ig.o q).1 h with h|h
      ·rcases Ae.o i q hit h with h|h
       ·exact .inl (.inr ⟨i,hit,h⟩)
       ·exact .inr h
      ·exact .inl (.inl h)
    case measure=>exact aFF
   ·obtain rfl:i=n:=ae;gi_wp2_with fail;refine⟨⟨ae,λq hq=>?_⟩,⟨ug,HG.o.same λj hj=>by rw[aG hj];exact FD.o j,λj q hj hq=>?_⟩,fP.o,Y9⟩
    ·have hqW:q<W.heap.size∧q≠bJ∧∀j,j<i→(uf j).ownBlock≠some q:=by
      have hrl:=λj (hj:j<i) (e:(uf j).ownBlock=some q)=>(QN j q hj e).1;rcases hq with h|h|h|h
      ·exact⟨ae,ae,λj hj e=>ajw⟩
      ·have:=HOW.o q h;exact⟨this.2,ae,λj hj e=>(HRR.o j q hj e).1 h⟩
      ·exact⟨ae,ae,λj hj e=>ajw⟩
      ·exact⟨ae,ae,λj hj e=>ajw⟩
     exact(Cg.o.block q ae (λh=>by
      rcases h with h|⟨j,hj,h⟩
      ·exact hqW.2.1 h
      ·exact hqW.2.2 j hj h)).trans (bX.o.block q hqW.1)
    ·rcases Ae.o j q hj hq with h|h
     ·exact⟨(HRR.o j q hj h).1,(HRR.o j q hj h).2.1⟩
     ·exact⟨λho=>by have:=HOW.o q ho;omega,ae⟩
 case done=>
  rintro own ls W hls ⟨⟨uf,hF,hR⟩,hbb,zt⟩ ho hs hK
  have O4:Hid (∀j,mR (aL x f) ls j=(bT x f st term within any).flatMap (iF (aL x f) j)):=U (λj=>by
   unfold mR;rw[←show ls.map (·.2)=bT x f st term within any from hls,List.flatMap_map])
  have Fy:Hid (∀j,∀s∈mR (aL x f) ls j,-100000≤s.1∧s.1≤s.2∧s.2≤100000):=U (λj s hs=>by
   rw[O4.o]at hs;obtain⟨p,hp,hs⟩:=iB.1 hs;have hz:=Ch.o p hp;have h1:=ZX gz.o hz.ok hz.zero j s hs;have h2:=(oQ (yA (aL x f) (iD p.1 j) p.2)).1 s hs
   omega)
  have tN:Hid (∀j,(mR (aL x f) ls j).length≤1000000000000):=U (λj=>by
   rw[O4.o]
   have key:∀l:List (aT×Int),(∀p∈l,p∈bT x f st term within any)→(l.flatMap (iF (aL x f) j)).length≤12500*l.length:=by
    intro l
    induction l with
    |nil=>simp
    |cons a l ih=>
     intro hl;rw[jN,dn,dS];have h1:=ih λp hp=>hl p (by simp[hp]);have hz:=Ch.o _ (hl a aj);have h2:=at_len gz.o hz.ok hz.zero j;omega
   have:=key _ λp hp=>hp;have h6:=D7.o;have h7:401*(iV within+1)≤401*2002:=Uy _ ae
   omega)
  have Ad:=U (hF.same (L':=λj=>if j<0 then norm (mR (aL x f) ls j)else mR (aL x f) ls j) λj _=>aj);have HRR:=U (λj q hj hq=>(hR j q hj hq).2);have jK:=U hbb;have HX:=U zt;have HK:=U hK;have c9:=zt.cell 0;have l9:=zt.lt;simp only[aK]at c9;have hW2:w2.heap.size+2≤W.heap.size:=hs;clear hls hF hR hbb zt ho hs hK;gi_wp2
  gi_loopw [57] (λs57 wr=>∃(i:Nat) (ug:Nat→Value),i≤n∧s57=.int .i64 i∧Hid (gY bJ bJ n (λj=>if j<i then norm (mR (aL x f) ls j)else mR (aL x f) ls j) ug wr)∧Hid (∀j q,j<n→(ug j).ownBlock=some q→w2.heap.size+2≤q)∧Hid (Below bJ w3 wr)∧Hid (Bx w3.heap.size [.slice (some ⟨bJ,0,none⟩) n n] wr)∧Hid (wr.heap[w2.heap.size]?=some (.deferred (some [])))∧w2.heap.size+2≤wr.heap.size) (λs57 _=>n-(intOf s57).toNat)
  case atStart=>exact⟨0,uf,tX _,rfl,Ad,HRR,jK,HX,HK,hW2⟩
  case round=>
   clear Ad HRR jK HX HK c9 l9 hW2;obtain⟨i,ug,hi2,rfl,HG,HR,jK,HX,HK,A8⟩:=hrel;have c9:=HX.o.cell 0;have l9:=HX.o.lt;simp only[aK]at c9;by_cases hit:i<n
   ·have uG:=HG.o.cell i hit;have AZ:=HG.o.lt;have vP:=HG.o.sp i hit;simp only[agr,aD,if_false]at vP;obtain⟨a5,c5,e5⟩:=bv vP;rw[e5]at uG vP;have HST:=U (jT vP);have hLi:=tN.o i;have HBi:=U (Fy.o i);obtain⟨la,hla⟩:∃l,Hid (mR (aL x f) ls i=l):=⟨_,U rfl⟩;rw[hla.o]at uG HST hLi HBi;clear e5 vP;have j1:(0:Int)≤(i:Int):=ae;have j2:(i:Int)<n:=ae;gi_wp2_with fail;refine Ou ?_;refine rU [8] [6,8] 1 [] [(1,[0,1,2,3,4,5],6),(0,[7],8)] [] [] [(1,[_,_,_,_,_,_],6,_),(0,[_],8,_)] [] ?_;refine aH (ku ?_)
    (repeat(go_big_quiet_step (fail)));refine aH ?_
    intro w6 hb6;go_wp2_with fail;refine(together _ la w6 (HST.o.below hb6) hLi HBi.o).mono ?_;rintro e w7 ⟨um,rfl,hOm,bV⟩;obtain⟨a7,c7,rfl⟩:=bv hOm;have ji:=Bl.call hb6 bV;obtain⟨NN,QJ⟩:∃r,Hid (norm la=r):=⟨_,U rfl⟩;rw[QJ.o]at hOm ⊢;have uJ:=ji.size;have UV:=(ji.cell (p:=⟨bJ,i,none⟩) AZ).trans uG;have l7T:bJ<w7.heap.size:=ae;have z7T:w7.frozen? ⟨bJ,i,none⟩=false:=(HG.o.below ji).free i;have atS:=U hOm;have hmb:∀q,(Value.slice a7 NN.length c7).ownBlock=some q→wr.heap.size≤q:=λq hq=>by have:=(hOm.lt q hq).1;have:=hb6.size;omega
    have Fs:=U hmb;have OJ:=U ji;have vR:=hb6.size;clear hOm hmb hb6 bV;go_wp2;refine dZ OJ.o (iP ?_)
    (repeat(go_big_quiet_step (fail)));refine aH ?_
    intro nq;go_wp2;refine bS _ rfl (jl ?_);simp only[iI,I8];have htd:aA (λ_=>False) wr (w7.drewN nq):=aA.of_below (Bl.drewN OJ.o nq);have tQ:=U (HG.o.set (v':=.slice a7 NN.length c7) (ys:=NN) hit htd (λh=>h) (λj q hj e hq h=>h) (kJ (jB atS.o nq) ae) (λq hq=>⟨by have:=Fs.o q hq;omega,.inr (Fs.o q hq)⟩));have GZ:=U (aA.below (jK.o.trans ((Bl.drewN OJ.o nq).mono ae)) (aA.setCell (λq=>q=bJ) (w7.drewN nq) ⟨bJ,i,none⟩ (.slice a7 NN.length c7) rfl) (by show bJ≤w7.heap.size;omega) (λq h=>ae));have PD:=U (((HX.o.next OJ.o).drewN nq).far (p:=⟨bJ,i,none⟩) (by show ¬bJ=_;omega) (.slice a7 NN.length c7));have Tu:Hid (((w7.drewN nq).setCell ⟨bJ,i,none⟩ (.slice a7 NN.length c7)).heap[w2.heap.size]?=some (.deferred (some []))):=U ((JD _ _ _ _ (by show w2.heap.size≠bJ;omega)).trans ((OJ.o.block _ ae).trans HK.o));have hzN:w2.heap.size+2≤((w7.drewN nq).setCell ⟨bJ,i,none⟩ (.slice a7 NN.length c7)).heap.size:=by simp[World.setCell];omega
    gi_wp2;go_roundw
    case rel=>
     refine⟨i+1,_,ae,aY,U (tQ.o.same λj _=>?_),U (λj q hj hq=>?_),GZ,PD,Tu,hzN⟩
     ·by_cases e:j=i
      ·subst e;rw[aG ae,aG rfl,hla.o,QJ.o]
      ·rw[aD e];by_cases e2:j<i
       ·rw[aG e2,aG ae]
       ·rw[aD e2,aD ae]
     ·by_cases e:j=i
      ·simp only[aG e]at hq;have:=Fs.o q hq;omega
      ·simp only[aD e]at hq;exact HR.o j q hj hq
    case measure=>exact aFF
   ·obtain rfl:i=n:=ae;have hwB:w.heap.size<bJ:=by have:=Er.o;omega
    have qV:Hid (aC Shape.span.list (wr.putObj w2.heap.size (.deferred none)) (.slice (some ⟨bJ,0,none⟩) i i) (qJ (aL x f) x.ticks (bT x f st term within any))):=U (Shape.list_far ((HG.o.turns (aA.putObj wr w2.heap.size (.deferred none)) ae (λj q hj hq e=>by have:=HR.o j q hj hq;omega)).reads (xs:=qJ (aL x f) x.ticks (bT x f st term within any)) (A:=λ_=>True) (by simp[qJ];exact mi.o) (λj hj=>by
     have hj2:j<i:=by
      have h1:(qJ (aL x f) x.ticks (bT x f st term within any)).length=(x.ticks+1).toNat:=by simp[qJ]
      have:=mi.o;omega
     simp only[qJ,lK,rZ,aG hj2,pV]
     rw[O4.o]) (aV _) lD trivial (λ_ _ _ _=>trivial)))
    gi_wp2_with fail;refine⟨aj,.inl ⟨_,_,rfl,sO HK.o,?_⟩⟩;refine⟨_,Lc rfl _ _ _,_,rfl,?_,(hB3.o.trans (jK.o.mono ae)).trans (AO (w:=w) (aV _) wr _ _ _ ae HK.o rfl rfl)⟩;exact qV.o
 case stop=>exact aFt
end
section
attribute [local go_sem] Qv
attribute [local go_sem] Oper.semAt_some
theorem aAK(Z:Nat→Prop)(x:aJ)(f:aQ)(st:Int)(C:Nat)(cs:List Value)(term:Nat)(within:List Sp)(Bc Ba Bw Bt n:Nat)(w0 w:World)(hF:∀W,Same Z w0 W→mI x f st C cs W)(hP:GU x f)(hl:(aL x f).length≤1000000)(hs0:w0.heap.size≤w.heap.size)(hk0:∀q,Z q→q<w0.heap.size→w.heap[q]?=w0.heap[q]?)
  (kW:Bx Bc [.pointer (some ⟨C,0,none⟩)] w) (hBa:Bx Ba [.bool true] w) :
  su prog n 113 #[.pointer (some ⟨Bc,0,none⟩),.pointer (some ⟨Ba,0,none⟩),.pointer (some ⟨Bw,0,none⟩),.pointer (some ⟨Bt,0,none⟩)] CU (λk=>(Z k∧k<w0.heap.size)∨k=Bc∨k=Ba∨k=Bw∨k=Bt) (λys=>ys.map (·.2)=bT x f st term within true) 1000000000 w (λy W=>aC Shape.nod.list W y.1 y.2.1):=by
 rw[WY];intro l J Jx W hW hJ hJx hY hj0;have rY:=U hF;have HW0:Hid (∀q,Z q→q<w0.heap.size→W.heap[q]?=w0.heap[q]?):=U (λq hz hq=>(hW.block q ae).trans (hk0 q hz hq));have hN:w0.heap.size≤W.heap.size:=fK hs0 hW.size;have HC:=U (kW.next hW);have HA:=U (hBa.next hW);have HP:=U hP;clear hF hP kW hBa hk0 hW;have Vj:=rY.o W ⟨hN,λb hb hl=>HW0.o b hb hl⟩;obtain⟨vz,hz1,hz2⟩:=Vj.m.zeroes;obtain⟨az,cz,rfl,hc1,hc2⟩:=hz2.shape;unfold maxLen at hc2
 have HZ:Hid (∀W',Same Z w0 W'→aC Shape.int W' (.slice az (iw f).length cz) (iw f)):=U (λW' h=>by
  obtain⟨v',e',h'⟩:=(rY.o W' h).m.zeroes;rw[hz1]at e';cases e'
  exact h')
 have SF:W.cell? ⟨C,25,none⟩=some (.slice az (iw f).length cz):=(Vj.m.bx.cell 25).trans hz1;have lCW:C<W.heap.size:=Vj.m.bx.lt;clear Vj hz1 hz2;have p0:=HC.o.cell 0;have lc:=HC.o.lt;simp only[aK]at p0;have J2:Hid (∀z∈iw f,-200≤z∧z≤200):=U (λz hz=>ajy);have hzl:(iw f).length≤401:=amo;generalize iw f=zs at *;have HJ:=U hJ;have HY:=U hY;have hj0:=U hj0;clear hJ hY;refine xV func113 rfl trivial ?_ rfl;simp only[ntmps113,jb,dS,fU,Nat.reduceAdd,Nat.reduceSub,kv,kw,kC,kz,fE,gB];have hfn:∀k,Fence.wide.fn k:=(λ_=>trivial);have hdp:¬(Fence.wide.depth.isSome=true):=kL;gi_wp2_with fail;have X5:=U (Bx.new (W:=W) (t:=186) (vs:=[.func (.yield l) #[] #[]]) rfl);have hj1:=U (HJ.o _ (λq=>q=W.heap.size) _ _ _ hj0.o (aA.alloc _ W (.cells #[.func (.yield l) #[] #[]] 186)) (λk e=>.inr bC));have hr1:Hid (∀q,q<W.heap.size→(W.alloc (.cells #[.func (.yield l) #[] #[]] 186)).heap[q]?=W.heap[q]?):=U (λq hq=>DJ _ _ _ hq);have hs1:W.heap.size+1≤(W.alloc (.cells #[.func (.yield l) #[] #[]] 186)).heap.size:=aj;generalize W.alloc (.cells #[.func (.yield l) #[] #[]] 186)=W1 at *;clear SF p0 hj0
 gi_loopw [15] (λs15 wr=>∃(k:Nat) (pre:List (Value×aT×Int)),k≤zs.length∧s15=.int .i64 k∧Hid (pre.map (·.2)=(zs.take k).map (zT x f st))∧Hid (J (λq=>q=W.heap.size) pre wr)∧Hid (∀q,((Z q∧q<w0.heap.size)∨q=Bc∨q=Ba)→wr.heap[q]?=W.heap[q]?)∧Hid (Bx W.heap.size [.func (.yield l) #[] #[]] wr)∧W.heap.size+1≤wr.heap.size) (λs15 _=>zs.length-(intOf s15).toNat)
 case atStart=>exact⟨0,[],tX _,rfl,U rfl,hj1,U (λq h=>hr1.o q ayo),X5,hs1⟩
 case round=>
  clear X5 hj1 hr1 hs1;obtain⟨k,pre,hk,rfl,nG,gL,HR,X5,hsz⟩:=hrel;by_cases hlt:k<zs.length
  ·have Am:Hid (∀q,Z q→q<w0.heap.size→wr.heap[q]?=w0.heap[q]?):=U (λq hz hq=>(HR.o q (.inl ⟨hz,hq⟩)).trans (HW0.o q hz hq));have vN:w0.heap.size≤wr.heap.size:=ae;have XC:=HC.o.block (HR.o Bc (.inr (.inl rfl))) ae;have XA:=HA.o.block (HR.o Ba (.inr (.inr rfl))) ae;have c0:=XC.cell 0;have a0:=XA.cell 0;have cl:=XC.lt;have al:=XA.lt;have f0:=X5.o.cell 0;have fl:=X5.o.lt;simp only[aK]at c0 a0 f0;obtain⟨bz,oz,rfl,d1⟩:=(HZ.o wr ⟨vN,λb hb hl=>Am.o b hb hl⟩).int_at hlt;have J3:=U (J2.o _ (eu hlt));have kR:Hid (∀v:Value,((pre++[((v,bQ x f st zs[k],zs[k]):Value×aT×Int)]).map (·.2))=(zs.take (k+1)).map (zT x f st)):=U (λv=>ayW);have Fw:Hid ((zs.take (k+1)).map (zT x f st) <+: zs.map (zT x f st)):=U ayZ;have hpl:pre.length=k:=by have:=gQ List.length nG.o;simp at this;omega
   generalize zs[k]=z at *;have i1:(0:Int)≤(k:Int):=ae;have i2:(k:Int)<zs.length:=ae;gi_wp2_with fail;have dQ:=Bl.alloc (aB wr.heap.size wr) (.cells #[z] 3);refine(jH jJ (aar x f st C cs z _ ((rY.o wr ⟨vN,λb hb hl=>Am.o b hb hl⟩).below dQ) HP.o J3.o hl)).mono ?_;rintro e W5 ⟨v,rfl,hT,hb5⟩;have HT:=U (kK hT);clear hT;obtain⟨at',vK,rfl,ht1,ht2⟩:=HT.o.shape;have hbb:=Bl.call dQ hb5;have X7:=(Bx.new (W:=wr) (t:=3) (vs:=[.int .i64 z]) rfl).next hb5;have z0:=X7.cell 0;have zl:=X7.lt;simp only[aK]at z0;have bq:=Bl.alloc hbb (.cells #[.slice at' (bQ x f st z).length vK] 139);have a1:=(XA.next bq).cell 0;have ZV:=(XA.next bq).lt;have f1:=(X5.o.next bq).cell 0;have fl1:=(X5.o.next bq).lt;simp only[aK]at a1 f1;obtain⟨fn,tmps,assign,body,hy,hR⟩:=HY.o (λq=>q=W.heap.size) pre (.slice at' (bQ x f st z).length vK,bQ x f st z,z) (W5.alloc (.cells #[.slice at' (bQ x f st z).length vK] 139)) (HJ.o _ _ _ _ _ gL.o (aA.of_below bq) (λ_ h=>.inl h)) ae (acC (by have:=kR.o undef;rw[iT]at this;simp only[oG,Av]at this;rw[this];exact Fw.o)) (HT.o.below (Bl.alloc (aB _ _) _));dsimp only[CU]at hy;gi_wp2_with fail
   have hbl:∀q,q<wr.heap.size→(W5.alloc (.cells #[.slice at' (bQ x f st z).length vK] 139)).heap[q]?=wr.heap[q]?:=λq hq=>bq.block q hq;have lU:=bq.size;have hcl:=HC.o.lt;have hal:=HA.o.lt;refine hR.mono ?_;rintro e W3 (⟨rfl,hJ3,hs3,hk3⟩|⟨rfl,hJ3,hs3,hk3⟩)
   ·have HR3:Hid (∀q,((Z q∧q<w0.heap.size)∨q=Bc∨q=Ba)→W3.heap[q]?=W.heap[q]?):=U (λq hq=>(hk3 q (.inl ayr)).trans ((hbl q ae).trans (HR.o q hq)));have ZP:=U (X5.o.block ((hk3 _ (.inr rfl)).trans (hbl _ fl)) ae);have gK:=U hJ3;have hz3:W.heap.size+1≤W3.heap.size:=ae;clear hk3 hJ3 hR hy hs3 hbl lU;gi_wp2;go_roundw
    case rel=>exact⟨k+1,_,ae,aY,U (kR.o _),gK,HR3,ZP,hz3⟩
    case measure=>exact aFF
   ·have gK:=U hJ3;clear hk3 hJ3 hR hy hs3 hbl lU;gi_wp2;go_end0;exact⟨⟨_,rfl⟩,_,_,.inr gK.o⟩
  ·obtain rfl:k=zs.length:=ae;gi_wp2;go_end0;refine⟨⟨_,rfl⟩,_,pre,.inl ⟨?_,gL.o⟩⟩;show List.map _ pre=_
   rw[nG.o,jc]
end
section
open Go.ChangeShapes Go.WideShapes Go.ChangeAt
theorem knob:ownKnob prog.godebug=none:=aF
theorem laidOut:laidOutB prog=true:=aF
theorem ak4:mapsRowed prog=true:=aF
theorem heard:prog.stopsHeard=true:=aF
theorem ak6:prog.mayEnter=true:=aF
theorem dP{a b:Bool}(ha:a=true)(hb:b=true):(a&&b)=true:=by rw[ha,hb];rfl
section
variable {H:Type} {enc:TypeId×Value→H}
theorem ant(hlo:laidOutB P=true)(hb:BL W W')(ts:List TypeId):∀(vs:List Value) (ds:List (DataW H)) (ps:List MemPlace),ts.all (λt=>P.readableRec t&&decide (t<P.types.size))=true→
  DataW.TrodAll enc P W 0 (λ_=>true) true ts vs ds ps→(∀x∈ps,x.block<W.heap.size)→DataW.TrodAll enc P W' 0 (λb=>decide (b<W.heap.size)) true ts vs ds ps:=by
 induction ts with
 |nil=>
  intro vs ds ps _ h _;obtain⟨rfl,rfl,rfl⟩:=trodAll_nil h;exact trodAll_mk0
 |cons t ts ih=>
  intro vs ds ps hr h hlt;obtain⟨v,vs',d,ds',p,q,rfl,rfl,rfl,h1,h2⟩:=trodAll_cons h;simp only[List.all_cons,bW,dG]at hr;exact trodAll_cons_mk (Below.trod hlo hr.1.1 hr.1.2 h1 hb (λx hx=>hlt x (List.mem_append_left _ hx))) (ih vs' ds' q (by simpa using hr.2) h2 (λx hx=>hlt x (List.mem_append_right _ hx)))
theorem Wi{b0:Nat}{spare:Nat→Bool}{held:Bool}{r:Reach}{t:TypeId}{R:List Value→Prop}{d:DataW H}{ps:List MemPlace}{fs:Array Field}(ht:prog.underlying t=some (.struct fs))(ho:bO enc W t R)(hval:Value.okWide prog W r b0 t v)(h:DataW.Trod enc prog W base spare held t v d ps):∃cs:List Value,v=.agg cs.toArray∧R cs:=by
 obtain⟨cs,rfl,_⟩:=okWide_struct ht hval;obtain⟨fuel,hf⟩:=h;exact⟨cs.toList,aj,ho _ _ _ _ _ _ hf⟩
theorem anC{b0:Nat}{spare:Nat→Bool}{held:Bool}{r:Reach}{d:DataW H}{ps:List MemPlace}(hval:Value.okWide prog W r b0 30 v)(h:DataW.Trod enc prog W base spare held 30 v d ps):∃x cx,v=.agg cx.toArray∧dM W x cx:=by
 obtain⟨cs,e,x,hx⟩:=Wi underlying30 axL hval h;exact⟨x,cs,e,hx⟩
end
end
end Go.Proofs.YtfmckbjeofiegaaGreat
