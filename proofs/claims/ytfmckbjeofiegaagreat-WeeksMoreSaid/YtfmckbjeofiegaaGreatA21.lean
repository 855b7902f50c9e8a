/- Part 21 of a proof. -/
import Derived.Test.YtfmckbjeofiegaaGreatA16
import Derived.Test.YtfmckbjeofiegaaGreatA17
import Derived.Test.YtfmckbjeofiegaaGreatA18
set_option maxRecDepth 100000
set_option maxHeartbeats 16000000
set_option linter.all false
open Go Go.RowKit Go.Proofs.Tryz
namespace Go.Proofs.YtfmckbjeofiegaaGreat
variable {fn:Func}{r y:Int}{bl:List Int}{ys:List Sp}{cs vs:List Value}{B base c g i j k:Nat}{A:Nat→Prop}{vf:Nat→Value}{p:bU}{P:Program}{ty:TypeId}{v v':Value}{W w':World}
section
attribute [local go_sem] Qv
theorem atb(p:bU)(t:dF)(w:World)(hp:fA p=true)(hpt:vW t=true):
  Calls prog 219 #[.agg #[p.pitch,p.height,p.radius,p.low,p.high,p.cols,p.al.1,p.al.2,p.ac.1,p.ac.2],.agg #[t.1,t.2.1,t.2.2]] w
   λe w'=>e=.returned (.func (.func 270) #[] #[.pointer (some ⟨w.heap.size,0,none⟩),.pointer (some ⟨w.heap.size+1,0,none⟩)])∧(∀n,vI prog n 270 #[.pointer (some ⟨w.heap.size,0,none⟩),.pointer (some ⟨w.heap.size+1,0,none⟩)] U5 (λk=>k=w.heap.size∨k=w.heap.size+1) (λzs=>zs=mW p t) (hts p t) w' (λz _=>z∈mW p t))∧w'.heap.size=w.heap.size+2∧BL w w':=by
 go_in;go_wp2;go_ret;exact⟨rfl,λn=>awI p t _ _ n _ ((Bx.new rfl).alloc _) (Bx.new aj) hp hpt,aj,Bl.alloc (Bl.alloc (aB _ _) _) _⟩
theorem Ka.of_rise{w:World}(h:UD g c base vs v ys w w'):Ka g c base vs v ys w w':=by
 obtain⟨v',h1,h2,h3,h4⟩:=h;refine⟨v',h1,h2,h3.mono λk hk=>hk.imp id Eq.symm,λq hq=>?_⟩;rcases h4 with e|⟨k,e,hk⟩
 ·exact .inl (e ▸ hq)
 ·rw[hq]at e;cases e;exact .inr hk
theorem Ka.of_add{w:World}(h1:Bx g (vs.set c v') w')(h2:bG w.heap.size w' v' ys)(h3:aA (λb=>b=g) w w')(hb:base≤w.heap.size):Ka g c base vs v ys w w':=
 ⟨v',h1,kJ h2 hb,h3.mono λ_ h=>.inl h,λq hq=>.inr (h2.lt q hq).1⟩
theorem Bx.made{n:Nat}{t:TypeId}(h:W.ownsRow base t k (.slice (some ⟨B,0,none⟩) n n) n cs):Bx B cs W:=by
 rcases h.2 with⟨e,_⟩|⟨g,cap,cur,e,_,hh,_,_,hs,ht⟩
 ·cases e
 ·cases e;refine Bx.of (t:=t) ?_;rw[hh,←ht,FY (by simp[hs])]
theorem avP:(prog.info? 290).map (λi=>(i.zero,i.size,i.bytes))=some (some (.agg #[.slice none 0 0]),1,24):=aF
theorem avG:(prog.info? 292).map (λi=>(i.zero,i.size,i.bytes))=some (some (.agg #[.slice none 0 0,.bool false]),2,32):=aF
theorem aw9(w:World)(n:Nat)(hn:n≤1000):∃w3,(Instr.makeSlice 293 (.int .i64 n) (.int .i64 n)).run prog w=.ok (.slice (some ⟨w.heap.size,0,none⟩) n n) w3∧Bx w.heap.size (List.replicate n (.slice none 0 0)) w3∧BL w w3:=by
 obtain⟨i0,hi,hz0,hz1,hz2⟩:=dY avP;obtain⟨w3,hrun,hown,hgr⟩:=RU (P:=prog) (w:=w) w.heap.size 293 290 i0 (.agg #[.slice none 0 0]) 1 underlying293 hi hz0 hz1 .i64 .i64 n ae Lf lD (aV _)
 have hcells:(madeCells (Value.agg #[.slice none 0 0]).cells (n*1)).toList=List.replicate n (.slice none 0 0):=by
  refine oD WJ λj h1 h2=>?_;simp[madeCells,Value.cells,Uw]
 rw[hcells]at hown;exact⟨w3,hrun,Bx.made hown,gJ (aB _ _) hgr (aV _) (λj hj=>MR)⟩
def nM(n:Nat)(vf:Nat→Value)(bs:List Int):List Value:=(List.range (n*2)).map λj=>if j % 2=0 then vf (j / 2)else .bool (decide (((j / 2:Nat):Int)∈bs))
theorem aah{n:Nat}{bs:List Int}(hi:i<n):(nM n vf bs)[i*2]?=some (vf i)∧(nM n vf bs)[i*2+1]?=some (.bool (decide ((i:Int)∈bs))):=by
 unfold nM;constructor
 ·rw[Ct,PW ae];simp
 ·rw[Ct,PW ae,MG,aD ae,show(i*2+1) / 2=i from ae]
theorem arV(n:Nat)(vf:Nat→Value)(bs:List Int):(nM n vf bs).length=n*2:=by simp[nM]
theorem arW{n:Nat}{bs:List Int}(v:Value):(nM n vf bs).set (i*2) v=nM n (λj=>if j=i then v else vf j) bs:=by
 refine oD (by simp[nM]) λj h1 h2=>?_;rw[Mw];simp only[nM,lK,rZ];by_cases e:i*2=j
 ·subst e;simp
 ·rw[aD e];by_cases h:j % 2=0
  ·rw[aG h,aG h,aD ae]
  ·rw[aD h,aD h]
theorem arU{n:Nat}{bs:List Int}:(nM n vf bs).set (i*2+1) (.bool true)=nM n vf (bs++[(i:Int)]):=by
 refine oD (by simp[nM]) λj h1 h2=>?_;rw[Mw];simp only[nM,lK,rZ];by_cases e:i*2+1=j
 ·subst e;rw[aG rfl,aD ae,show(i*2+1) / 2=i from ae];simp
 ·rw[aD e];by_cases h:j % 2=0
  ·rw[aG h,aG h]
  ·rw[aD h,aD h];have:¬((j / 2:Nat):Int)=(i:Int):=ae;simp only[oH,FW,this,Bp]
theorem aw7(w:World)(n:Nat)(hn:n≤1000):∃w3,(Instr.makeSlice 288 (.int .i64 n) (.int .i64 n)).run prog w=.ok (.slice (some ⟨w.heap.size,0,none⟩) n n) w3∧Bx w.heap.size (nM n (λ_=>.slice none 0 0) []) w3∧BL w w3:=by
 obtain⟨i0,hi,hz0,hz1,hz2⟩:=dY avG;obtain⟨w3,hrun,hown,hgr⟩:=RU (P:=prog) (w:=w) w.heap.size 288 292 i0 (.agg #[.slice none 0 0,.bool false]) 2 underlying288 hi hz0 hz1 .i64 .i64 n ae Lf lD (aV _)
 have hcells:(madeCells (Value.agg #[.slice none 0 0,.bool false]).cells (n*2)).toList=nM n (λ_=>.slice none 0 0) []:=by
  refine oD (by simp[madeCells,nM]) λj h1 h2=>?_;rcases Nat.mod_two_eq_zero_or_one j with h|h<;>simp[madeCells,nM,Value.cells,h]
 rw[hcells]at hown;exact⟨w3,hrun,Bx.made hown,gJ (aB _ _) hgr (aV _) (λj hj=>MR)⟩
def uT(n:Nat)(vf:Nat→Value):List Value:=(List.range n).map vf
theorem WF{n:Nat}(hi:i<n):(uT n vf)[i]?=some (vf i):=by
 unfold uT;rw[List.getElem?_map,List.getElem?_range hi];rfl
theorem amH{n:Nat}(v:Value):(uT n vf).set i v=uT n (λj=>if j=i then v else vf j):=by
 refine oD (by simp[uT]) λj h1 h2=>?_;rw[Mw];simp only[uT,lK,rZ];by_cases e:i=j
 ·subst e;simp
 ·rw[aD e,aD (λh=>e h.symm)]
theorem amG(n:Nat)(v:Value):List.replicate n v=uT n (λ_=>v):=by
 refine oD (by simp[uT]) λj h1 h2=>?_;simp[uT]
theorem akS{t:dF}{z:Int×Sp}(h:z∈mW p t):0≤z.1∧z.1≤p.height:=by
 unfold mW at h;simp only[dz,fD]at h;obtain⟨k,hk,rfl⟩:=h;unfold hts at hk;have h1:0≤(fI p t).1:=by unfold fI rO;exact Int.le_max_left _ _
 have h2:(fI p t).2≤p.height:=by unfold fI;exact Int.min_le_right _ _
 dsimp only;omega
theorem akM(hp:fA p=true)(h1:0≤y)(h2:y≤p.height):0≤gD p y∧gD p y≤12000:=by
 obtain⟨⟨_,_,hh,_,_,hl,hlh,hhi,_⟩,_⟩:=Bz.1 hp;have e1:gD p y=p.low+y*(p.high-p.low) / p.height:=rfl;have a1:0≤y*(p.high-p.low):=yR h1 ae;have a2:0≤y*(p.high-p.low) / p.height:=Uh a1 ae
 have a3:y*(p.high-p.low) / p.height≤p.high-p.low:=by
  have b1:y*(p.high-p.low)≤p.height*(p.high-p.low):=Ui h2 ae;have b2:=Uf (c:=p.height) ae b1;rw[Int.mul_ediv_cancel_left _ ae]at b2;exact b2
 omega
theorem axe{o:List Sp}{v:Int}(ho:∀s∈o,0≤s.1∧s.1≤12000∧0≤s.2∧s.2≤12000)(h1:0≤v)(h2:v≤12000):(ik o (v,v)).length≤o.length+1∧∀s∈ik o (v,v),0≤s.1∧s.1≤12000∧0≤s.2∧s.2≤12000:=by
 rcases GI o with rfl|⟨o,t,rfl⟩
 ·rw[ach];simp;omega
 ·have ht:=ho t aj;rw[I6];split
  ·refine⟨aj,λs hs=>?_⟩;rcases oH.1 hs with h|h
   ·exact ho s (by simp[h])
   ·rw[List.mem_singleton.1 h];dsimp only;omega
  ·refine⟨aj,λs hs=>?_⟩;rcases oH.1 hs with h|h
   ·exact ho s h
   ·rw[List.mem_singleton.1 h];dsimp only;omega
theorem awF(hp:fA p=true){t:dF}(c:Nat):∀(m:Nat) (zs:List (Int×Sp)),zs.length=m→(∀z∈zs,z∈mW p t)→(sJ p zs c).length≤zs.length∧∀s∈sJ p zs c,0≤s.1∧s.1≤12000∧0≤s.2∧s.2≤12000:=by
 intro m
 induction m with
 |zero=>intro zs h _;rw[jo h,awG];simp
 |succ m ih=>
  intro zs h hz;rcases GI zs with rfl|⟨o,z,rfl⟩
  ·simp at h
  ·have hm:o.length=m:=wu;obtain⟨i1,i2⟩:=ih o hm (λx hx=>hz x (by simp[hx]));rw[akR];split
   ·obtain⟨b1,b2⟩:=akS (hz z aj);obtain⟨l1,l2⟩:=akM hp b1 b2;obtain⟨j1,j2⟩:=axe i2 l1 l2;exact⟨by rw[dn];simp;omega,j2⟩
   ·exact⟨amj,i2⟩
theorem ata{x1 x2 x3 x4 x5 x6 x7 x8 x9 dL:Int}{w:World}{d:Nat}{os:Array Obj}(a1:1≤x2)(a2:x2≤400000)(b1:0≤x4)(b2:x4<x5)(b3:x5≤12000)(y1:0≤y)(y2:y≤x2)(hr:Hid (gD ⟨x1,x2,x3,x4,x5,x6,(x7,x8),(x9,dL)⟩ y=r)):
  Calls prog 221 #[.agg #[x1,x2,x3,x4,x5,x6,x7,x8,x9,dL],y] (Sort.grow (redrawn w d) os) λe w''=>e=.returned (.int .i64 r)∧∃p:Regrown,w''=Sort.grow (redrawn w p.d) p.os:=
 uZ ((as9 x1 x2 x3 x4 x5 x6 x7 x8 x9 dL y _ a1 a2 b1 b2 b3 y1 y2).mono λ_ _ h=>⟨by rw[h.1,hr.o],h.2⟩)
end
theorem awE(hp:fA p=true)(t:dF)(c:Nat):sJ p (mW p t) c=mX p t c:=by
 rw[←ayH hp t c];unfold sJ mW Ld;rw[agh,Au];rfl
theorem aqX(h:∀j,j<bl.length→Gc p bl j=true):Ei p bl=true:=by
 unfold Ei;exact mq.2 λj hj=>h j (fD.1 hj)
theorem aqW(hj:j<bl.length)(h:Gc p bl j=false):Ei p bl=false:=by
 cases e:Ei p bl with
 |false=>rfl
 |true=>
  unfold Ei at e;have:=mq.1 e j (fD.2 hj);rw[h]at this;cases this
theorem aqV(hj:j<bl.length):Gc p bl j=(dw bl[j] 0 (p.cols-1)&&(decide (j=0) || decide (bl.getD (j-1) 0<bl[j]))):=by
 unfold Gc dw;rw[bN,di hj,sj]
theorem aAH{l:List dF}(h0:(qp l).1=0):∀t∈l,vW t=true:=by
 have hn:¬2000<l.length:=λh1=>by rw[ano h1]at h0;simp at h0
 have key:∀m j,j<m→j<l.length→vW (mF l j)=true:=by
  intro m
  induction m with
  |zero=>intro j hj;omega
  |succ m ih=>
   intro j hj hl;by_cases e:j<m
   ·exact ih j e hl
   ·cases hc:vW (mF l j)with
    |true=>rfl
    |false=>rw[ann hn hl (λi hi=>ih i ae ae) hc]at h0;simp at h0
 intro t ht;obtain⟨j,hj,rfl⟩:=mr ht;have:=key (j+1) j ae hj;unfold mF at this;rw[bN,di hj,sj]at this;exact this
theorem avY{l:List dF}(hp:fA p=true)(ht:(qp l).1=0)(hb:Ei p bl=false):(jY p l bl).2=1:=by
 unfold jY;rw[aG hp,aD (λh=>h ht),aD (by simp[hb])]
theorem av0{l:List dF}(hp:fA p=true)(ht:(qp l).1=0)(hb:Ei p bl=true)(hc:(c:Int)<p.cols)(hn:¬(c:Int)∈bl)(h:8<(zk p l c).length):(jY p l bl).2=2:=by
 unfold jY;rw[aG hp,aD (λh=>h ht),aG hb,aG];rw[FU];refine⟨zk p l c,?_,wu⟩;unfold sI;exact dz.2 ⟨c,fD.2 ae,aD hn⟩
theorem avZ{l:List dF}(hp:fA p=true)(ht:(qp l).1=0)(hb:Ei p bl=true)(h:∀c:Nat,(c:Int)<p.cols→¬(c:Int)∈bl→(zk p l c).length≤8):(jY p l bl).2=0:=by
 unfold jY;rw[aG hp,aD (λh=>h ht),aG hb,aD];intro h2;rw[FU]at h2;obtain⟨x,hx,h3⟩:=h2;unfold sI at hx;obtain⟨c,hc,rfl⟩:=dz.1 hx;have hc:=fD.1 hc;by_cases e:(c:Int)∈bl
 ·rw[aG e]at h3;simp at h3
 ·rw[aD e]at h3;have:=h c ae e;have h3:8<(zk p l c).length:=EU;omega
theorem ahE(hp:fA p=true)(l:List dF)(c:Nat):bF (norm (l.flatMap λt=>mX p t c))∧(∀s∈norm (l.flatMap λt=>mX p t c),0≤s.1∧s.1≤s.2∧s.2≤12000)∧(norm (l.flatMap λt=>mX p t c)).length≤12001:=by
 have h1:=oQ (l.flatMap λt=>mX p t c);have h2:∀s∈norm (l.flatMap λt=>mX p t c),0≤s.1∧s.2≤12000:=ahC hp l c;refine⟨h1,λs hs=>⟨(h2 s hs).1,h1.1 s hs,(h2 s hs).2⟩,?_⟩;have:=zC h1 h2 ae;omega
theorem aw3(hp:fA p=true)(t:dF)(c:Nat):(∀s∈mX p t c,0≤s.1∧s.1≤s.2∧s.2≤12000)∧(mX p t c).length≤12001:=by
 have h1:=(ab9 hp t c).1;have h2:=ak7 hp t c;refine⟨λs hs=>⟨(h2 s hs).1,h1.1 s hs,(h2 s hs).2⟩,?_⟩;have:=zC h1 h2 ae;omega
theorem arT{l:List dF}{t:dF}(h:l.take (k+1)=l.take k++[t])(c:Nat):norm (norm ((l.take k).flatMap λt=>mX p t c)++mX p t c)=norm ((l.take (k+1)).flatMap λt=>mX p t c):=by
 rw[h,mO];refine V8.2 λn=>?_;rw[NA,pX,NA];simp
theorem aw8(w:World)(n:Nat)(hn:n≤1000):∃w3,(Instr.makeSlice 33 (.int .i64 n) (.int .i64 n)).run prog w=.ok (.slice (some ⟨w.heap.size,0,none⟩) n n) w3∧Bx w.heap.size (List.replicate n (.slice none 0 0)) w3∧BL w w3:=by
 obtain⟨i0,hi,hz0,hz1,hz2⟩:=dY (show(prog.info? 54).map (λi=>(i.zero,i.size,i.bytes))=some (some (.slice none 0 0),1,24)from aF);obtain⟨w3,hrun,hown,hgr⟩:=RU (P:=prog) (w:=w) w.heap.size 33 54 i0 (.slice none 0 0) 1 underlying33 hi hz0 hz1 .i64 .i64 n ae Lf lD (aV _)
 have hcells:(madeCells (Value.slice none 0 0).cells (n*1)).toList=List.replicate n (.slice none 0 0):=by
  refine oD WJ λj h1 h2=>?_;simp[madeCells,Value.cells,Uw]
 rw[hcells]at hown;exact⟨w3,hrun,Bx.made hown,gJ (aB _ _) hgr (aV _) (λj hj=>MR)⟩
def vU(n:Nat)(vf:Nat→Value)(bl:List Int)(k:Nat):List Value:=uT n λj=>if j<k∧¬(j:Int)∈bl then vf j else .slice none 0 0
theorem axQ(n:Nat)(vf:Nat→Value)(bl:List Int)(k:Nat):(vU n vf bl k).length=n:=by simp[vU,uT]
theorem axS(n:Nat)(vf:Nat→Value)(bl:List Int):vU n vf bl 0=List.replicate n (.slice none 0 0):=by
 rw[amG];unfold vU;simp
theorem axP{n:Nat}(h:(k:Int)∈bl):vU n vf bl (k+1)=vU n vf bl k:=by
 unfold vU
 congr 1;funext j
 by_cases e:j=k
 ·subst e;simp[h]
 ·have:j<k+1↔j<k:=ae;simp only[this]
theorem axR{n:Nat}(h:¬(k:Int)∈bl):(vU n vf bl k).set k (vf k)=vU n vf bl (k+1):=by
 unfold vU;rw[amH]
 congr 1;funext j
 by_cases e:j=k
 ·subst e;simp[h]
 ·have:j<k+1↔j<k:=ae;simp only[aD e,this]
theorem av2{l:List dF}{n:Nat}(hn:p.cols=(n:Int))(hn2:n≤1000)(hX:Bx B (vU n vf bl n) W)(hs:∀j,j<n→bG base W (vf j) (zk p l j))(hB:A B)(hA:∀j q,j<n→(vf j).ownBlock=some q→A q):Shape.span.list.list.reads A W [.slice (some ⟨B,0,none⟩) n n] (sI p l bl):=by
 have hl:(sI p l bl).length=n:=by simp[sI,hn]
 refine⟨_,n,by rw[hl],ae,lD,λ_=>⟨B,0,rfl,hX.lt,hB,λk hk=>?_⟩⟩;have hk':k<n:=ae;have hc:=hX.cell k;unfold vU at hc;rw[WF hk']at hc;have e:(sI p l bl)[k]=if(k:Int)∈bl then []else zk p l k:=by simp[sI]
 have h1:∀j,j<1→j=0:=λj h=>ae;by_cases hb:(k:Int)∈bl
 ·rw[aD (λh=>h.2 hb)]at hc;refine⟨[.slice none 0 0],?_,λj hj=>?_⟩
  ·rw[e,aG hb];exact⟨none,0,rfl,aj,lD,λh=>absurd h aj⟩
  ·obtain rfl:=h1 j hj;simpa[show Shape.span.list.n=1 from rfl]using hc
 ·rw[aG ⟨hk',hb⟩]at hc;refine⟨[vf k],?_,λj hj=>?_⟩
  ·rw[e,aD hb];exact xh mE (jT (hs k hk')) (λq hq=>hA k q hk' hq)
  ·obtain rfl:=h1 j hj;simpa[show Shape.span.list.n=1 from rfl]using hc
theorem RQ{p u:Tmp}(h:fn.results=#[.cell p ty,.tmp u])(tmps:Array Value)(w:World)(g:Nat)(t:TypeId)(cs:Array Value)(fr:Nat×Nat)(d:TypeDesc)
  (hp:tmps.getD p undef=.pointer (some ⟨g,0,none⟩)) (hg:w.heap[g]?=some (.cells cs t fr))
  (hu:P.underlying ty=some d) (hd:(match d with|.struct _|.array _ _=>true|_=>false)=true) (hi:(P.info? ty).map (·.size)=some cs.size) :
  (results fn tmps).run P w=.ok (.tuple #[.agg cs,tmps.getD u undef]) w:=by
 rw[results_cell_tmp h];have hp':tmps[p]?.getD undef=.pointer (some ⟨g,0,none⟩):=Oh;simp[hp',asAddr,al8 w g t ty cs fr d hg hu hd hi]
end Go.Proofs.YtfmckbjeofiegaaGreat
