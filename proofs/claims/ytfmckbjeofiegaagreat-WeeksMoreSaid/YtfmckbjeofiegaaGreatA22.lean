/- Part 22 of a proof. -/
import Derived.Test.YtfmckbjeofiegaaGreatA17
set_option maxRecDepth 100000
set_option maxHeartbeats 16000000
set_option linter.all false
open Go Go.RowKit Go.Proofs.Tryz
namespace Go.Proofs.YtfmckbjeofiegaaGreat
variable {f:aQ}{L l:List Sp}{c:Nat}{T:aT}{x:aJ}
theorem am1:∀(A:List (List dK)) (next:Int) (l:List dK),qd next (A++[l])=(qd next A&&sU (match A.getLast? with|none=>next|some a=>(a.length:Int)) l)
 |[],next,l=>by simp[qd]
 |a::A,next,l=>by
  rw[gB,qd,am1 A,qd,Bool.and_assoc]
  congr 2
  cases A with
  |nil=>rfl
  |cons b B=>
   rw[List.getLast?_cons_cons]
   cases e:(b::B).getLast? with
   |none=>simp at e
   |some c=>rfl
theorem am3:∀ {T:List (List dK)},(∀k,(h:k<T.length)→sU ((aN T (k+1)).length:Int) T[k]=true)→qd 0 T.reverse=true
 |[],_=>rfl
 |l::T,h=>by
  rw[List.reverse_cons,am1,bW];refine⟨am3 λk hk=>?_,?_⟩
  ·have:=h (k+1) BC;simpa[aN]using this
  ·have:=h 0 aj;rw[List.getLast?_reverse]
   cases T with
   |nil=>simpa[aN]using this
   |cons t T=>simpa[aN]using this
theorem amF:∀ {l:List Sp} {a:Int},bF l→(∀s∈l,a+2≤s.1∧s.2≤100000)→Dy a l=true
 |[],_,_,_=>rfl
 |s::l,a,h,hb=>by
  obtain⟨h1,h2,h3⟩:=rH.1 h;have:=hb s aj;unfold Dy;rw[bW,dG];exact⟨ae,amF h3 λt ht=>⟨aa7,(hb t GD).2⟩⟩
structure wV(m:Nat)(T:aT):Prop where
 len:1≤T.length∧T.length≤401
 st:∀k,k<T.length→1≤(aN T k).length∧(aN T k).length≤4000
 al:∀k n,bF (aI (aN T k) n).1∧(aI (aN T k) n).1.length≤m∧∀s∈(aI (aN T k) n).1,0≤s.1∧s.2≤12000
 ed:∀k n,(aI (aN T k) n).2.length≤64∧∀e∈(aI (aN T k) n).2,0≤e.1∧e.1<(aN T (k+1)).length∧e.2.1≤e.2.2∧-50000≤e.2.1∧e.2.2≤50000
theorem wV.trkB{m:Nat}(h:wV m T)(hm:m≤64):ib T:=by
 refine⟨?_,λk n=>(h.al k n).2.2,λk n e he=>by have:=(h.ed k n).2 e he;omega⟩;unfold zM;rw[aG h.len,am3 λk hk=>?_]
 ·rfl
 ·rw[←zL hk];unfold sU;rw[bW,dG,mq];refine⟨h.st k hk,λx hx=>?_⟩;obtain⟨n,hn,rfl⟩:=mr hx;rw[←vT hn];unfold Dh xy EH;obtain⟨a1,a2,a3⟩:=h.al k n;obtain⟨e1,e2⟩:=h.ed k n;simp only[bW,dG,mq];refine⟨⟨⟨ae,amF a1 λs hs=>by have:=a3 s hs;omega⟩,e1⟩,λe he=>?_⟩;have:=e2 e he;unfold AR Ik;rw[bW,dG,dG];omega
theorem wV.mono{m m':Nat}(h:wV m T)(hm:m≤m'):wV m' T:=⟨h.len,h.st,λk n=>by have:=h.al k n;exact⟨this.1,ae,this.2.2⟩,h.ed⟩
theorem ale(hp:Bu f.sheet.band f.sheet.zlo f.sheet.zhi f.sheet.rate=true)(o:Int):(oP f o).length≤17∧∀m∈oP f o,0≤m.1∧m.1≤2*f.sheet.band∧m.2.1≤m.2.2∧-50000≤m.2.1∧m.2.2≤50000:=by
 unfold Bu at hp;rw[dG]at hp;unfold oP KX;split
 ·split
  ·rename_i h;simp[dw]at h;refine⟨aue,λm hm=>?_⟩;unfold Gs dR at hm;obtain⟨i,hi,rfl⟩:=dz.1 hm;obtain⟨h1,h2⟩:=r9.1 hi;have h1:=fD.1 h1;unfold jZ at h2;simp only[bW,dG]at h2;refine⟨ic,ic,ic,?_,?_⟩
   ·dsimp only;unfold zy;split<;>omega
   ·dsimp only;unfold zx;split<;>omega
  ·simp
 ·simp
theorem awe(s:Sp)(b:List Sp):(inter [s] b).length≤b.length:=by
 unfold inter;simp only[jN,J5,ow];refine fK (FV _ _) ?_;simp
theorem aqx(hP:GU x f)(st zero:Int)(hz:-200≤zero∧zero≤200)(s:dx)(hs:-8≤s.2.2∧s.2.2≤8)(tick:Int):
  (lM x f st (jP f) (df f).length zero s tick).length≤8∧∀u∈lM x f st (jP f) (df f).length zero s tick,0≤u.1∧u.2≤12000:=by
 have hr:=Wo (l:=xU x st) (λr hr=>hP.reads.2 r (r9.1 hr).1) (tick:=tick) (by':=s.2.2+zero) ae (aV _);rw[alU]at hr;unfold lM;dsimp only;generalize rQ x.reads st tick (s.2.2+zero)=r at *;have h1:([r]:List Sp).length≤8∧∀u∈[r],0≤u.1∧u.2≤12000:=⟨aj,λu hu=>azW⟩;have h0:([]:List Sp).length≤8∧∀u∈([]:List Sp),0≤u.1∧u.2≤12000:=⟨aj,aj⟩;split
 ·exact h0
 ·split
  ·exact h0
  ·split
   ·exact h1
   ·split
    ·exact h0
    ·split
     ·exact h1
     ·have hk:((jP f).getD s.1.toNat []).length≤8∧∀u∈(jP f).getD s.1.toNat [],0≤u.1∧u.2≤12000:=by
       rw[bN]
       cases e:(jP f)[s.1.toNat]? with
       |none=>exact h0
       |some l=>have:=hP.ink.2 l (qX e);exact this.2
      exact⟨fK (awe _ _) hk.1,akz hk.2⟩
theorem aBs(gaps:List Sp)(ticks c a:Int):(nk gaps ticks c a).length≤2:=by
 unfold nk;split
 ·simp
 ·split
  ·simp
  ·rw[dn];split<;>split<;>simp
theorem Z6(hx:fM x)(hf:qG x f)(hl:gG x f=false)(st zero:Int)(hz:-200≤zero∧zero≤200):wV 8 (bQ x f st zero):=by
 have hP:=xY hx hf;have hb:=hP.band;have ht:=hP.ticks;have hg1:=atl hf.drum
 have hss:1≤(aL x f).length∧(aL x f).length≤4000:=by
  unfold gG at hl;have hl:=Wd hl;rw[WV];have h1:1≤(eY (jg f.sheet.drum) x.ticks).length:=by simp[eY]
  have e:(((2*f.sheet.band+1).toNat:Nat):Int)=2*f.sheet.band+1:=ae;have e2:(((eY (jg f.sheet.drum) x.ticks).length*(2*f.sheet.band+1).toNat:Nat):Int)≤4000:=by rw[Zj,e];omega
  have h2:1*1≤(eY (jg f.sheet.drum) x.ticks).length*(2*f.sheet.band+1).toNat:=Ux h1 ae;unfold df;omega
 have hst:∀k,k<(x.ticks+1).toNat→(aN (bQ x f st zero) k).length=(aL x f).length:=λk hk=>by
  unfold bQ;rw[EX _ _ _ _ _ k hk,List.length_map]
 have hnd:∀k n,k<(x.ticks+1).toNat→n<(aL x f).length→∃s∈aL x f,aI (aN (bQ x f st zero) k) n=(lM x f st (jP f) (df f).length zero s k,if(k:Int)<x.ticks then CR (df f) f.sheet.band (oP f s.2.2) (eY (df f) x.ticks) (s.1,s.2.1)else []):=λk n hk hn=>by
  refine⟨(aL x f)[n],eu hn,?_⟩;unfold bQ;rw[EX _ _ _ _ _ k hk,vT amk,lK]
 have hov:∀k n,¬(k<(x.ticks+1).toNat∧n<(aL x f).length)→aI (aN (bQ x f st zero) k) n=([],[]):=λk n h=>by
  by_cases hk:k<(x.ticks+1).toNat
  ·exact lW (by rw[hst k hk];omega)
  ·rw[show aN (bQ x f st zero) k=[]from adI _ _ _ _ _ k ae];exact lW aj
 have hlen:(bQ x f st zero).length=(x.ticks+1).toNat:=Sv _ _ _ _ _
 have hsm:∀s∈aL x f,(-1≤s.1∧s.1≤(df f).length)∧0≤s.2.1∧-8≤s.2.2∧s.2.2≤8:=λs hs=>by
  obtain⟨h1,h2,h3⟩:=Jn hs;have:=mem_places.1 h1;dsimp only at this;omega
 have hok:=aAI x f st (oP f) zero hb.1 λo m hm=>by have:=(ale hf.pen o).2 m hm;omega
 refine⟨ae,λk hk=>by rw[hst k ae];exact hss,λk n=>⟨hok.al k n,?_⟩,λk n=>?_⟩
 ·by_cases h:k<(x.ticks+1).toNat∧n<(aL x f).length
  ·obtain⟨s,hs,e⟩:=hnd k n h.1 h.2;rw[e];exact aqx hP st zero hz s (by have:=hsm s hs;omega) k
  ·rw[hov k n h];simp
 ·by_cases h:k<(x.ticks+1).toNat∧n<(aL x f).length
  ·obtain⟨s,hs,e⟩:=hnd k n h.1 h.2;have Nj:=hok.ed k n;unfold bQ at e;rw[show Jp x f st (oP f) zero=bQ x f st zero from rfl]at e Nj;rw[e]at Nj ⊢;dsimp only at Nj ⊢;have hs':=hsm s hs;by_cases hlt:(k:Int)<x.ticks
   ·rw[aG hlt]at Nj ⊢;rw[ahY _ _ hg1 ht.1 hs'.1 hs'.2.1]at Nj ⊢;have hm:=ale hf.pen s.2.2;constructor
    ·have key:∀l:List jr,(l.flatMap (tu (df f) x.ticks f.sheet.band (oP f s.2.2))).length≤17*l.length:=by
      intro l
      induction l with
      |nil=>simp
      |cons p l ih=>
       rw[jN,dn,dS];have:(tu (df f) x.ticks f.sheet.band (oP f s.2.2) p).length≤17:=by unfold tu;rw[List.length_map];exact hm.1
       omega
     have h1:=key (nk (df f) x.ticks s.1 s.2.1);have h2:=aBs (df f) x.ticks s.1 s.2.1;omega
    ·intro e he;have h1:=Nj e he;obtain⟨p,_,he⟩:=iB.1 he;unfold tu at he;obtain⟨m,hmm,rfl⟩:=dz.1 he;have h2:=hm.2 m hmm;dsimp only at h1 ⊢;omega
   ·rw[aD hlt];simp
  ·rw[hov k n h];simp
theorem azL(h:bF l)(n:Int):bF (gF l n):=by
 unfold gF;refine⟨λs hs=>?_,?_⟩
 ·obtain⟨t,ht,rfl⟩:=dz.1 hs;have:=h.1 t ht;dsimp only;omega
 ·rw[MC];exact h.2.imp λh=>ic
theorem EW(T:aT)(k:Nat)(S:List dK)(j:Nat):aN (T.set k S) j=if k=j∧k<T.length then S else aN T j:=by
 unfold aN;rw[bN,List.getElem?_set,bN];by_cases e:k=j
 ·subst e;by_cases h:k<T.length
  ·simp[h]
  ·rw[wT ae];simp[h]
 ·simp[e]
theorem axE{m:Nat}(h:wV m T)(ss:List dx)(zero:Int)(tick:Nat)(hL:bF L)(hc:L.length≤c):wV (m+c) (kZ ss T zero tick L):=by
 unfold kZ
 have hlen:∀j,(aN (T.set tick ((List.range (aN T tick).length).map λ(i:Nat)=>(inter (aI (aN T tick) i).1 (gF L (-(mY ss i)-zero)),(aI (aN T tick) i).2))) j).length=(aN T j).length:=λj=>by
  rw[EW];split
  ·rename_i e;rw[←e.1];simp
  ·rfl
 refine⟨by rw[qW];exact h.len,λk hk=>ayV,λk n=>?_,λk n=>?_⟩
 ·rw[EW];split
  ·rename_i e;by_cases hn:n<(aN T tick).length
   ·rw[vT GH];simp only[lK,rZ];obtain⟨a1,a2,a3⟩:=h.al tick n;have hs:=azL hL (-(mY ss n)-zero);refine⟨Be a1 hs,?_,λs hs'=>?_⟩
    ·have:=akA _ _ a1 hs;simp only[gF,fC]at this ⊢;omega
    ·have hv:=(Be a1 hs).1 s hs';exact V9 (Be a1 hs).1 (λv hv=>ak9 a3 (Bd.1 hv).1) s hs'
   ·rw[lW GH];simp[kH]
  ·have:=h.al k n;exact⟨this.1,ae,this.2.2⟩
 ·rw[hlen,EW];split
  ·rename_i e;by_cases hn:n<(aN T tick).length
   ·rw[vT GH];simp only[lK,rZ];rw[←e.1];exact h.ed tick n
   ·rw[lW GH];simp
  ·exact h.ed k n
theorem UZ{m:Nat}(h:wV m T)(ss:List dx)(tick:Nat)(b:Sp):wV m (kT ss T tick b):=by
 unfold kT
 have hlen:∀j,(aN (T.set tick ((List.range (aN T tick).length).map λ(i:Nat)=>((aI (aN T tick) i).1,((aI (aN T tick) i).2.map (uw ss i b)).filter λe=>decide (e.2.1≤e.2.2)))) j).length=(aN T j).length:=λj=>by
  rw[EW];split
  ·rename_i e;rw[←e.1];simp
  ·rfl
 refine⟨by rw[qW];exact h.len,λk hk=>ayV,λk n=>?_,λk n=>?_⟩
 ·rw[EW];split
  ·rename_i e;by_cases hn:n<(aN T tick).length
   ·rw[vT GH];simp only[lK,rZ];exact h.al tick n
   ·rw[lW GH];simp[kH]
  ·exact h.al k n
 ·rw[hlen,EW];split
  ·rename_i e;by_cases hn:n<(aN T tick).length
   ·rw[vT GH];simp only[lK,rZ];have he:=h.ed tick n;refine⟨fK (FV _ _) (by rw[fC];exact he.1),λu hu=>?_⟩;obtain⟨h1,h2⟩:=r9.1 hu;obtain⟨v,hv,rfl⟩:=dz.1 h1;have h3:=he.2 v hv;rw[dG]at h2;unfold uw at h2 ⊢;dsimp only at h2 ⊢;rw[←e.1];omega
   ·rw[lW GH];simp
  ·exact h.ed k n
theorem axD(ss:List dx)(T:aT)(zero:Int)(tick:Nat)(L:List Sp)(j:Nat):(aN (kZ ss T zero tick L) j).length=(aN T j).length:=by
 unfold kZ;rw[EW];split
 ·rename_i e;rw[←e.1];simp
 ·rfl
end Go.Proofs.YtfmckbjeofiegaaGreat
