/- Part 35 of a proof. -/
import Derived.Test.YtfmckbjeofiegaaGreatA29
import Derived.Test.YtfmckbjeofiegaaGreatA30
set_option maxRecDepth 100000
set_option maxHeartbeats 16000000
set_option linter.all false
open Go Go.RowKit Go.Proofs.Tryz
namespace Go.Proofs.YtfmckbjeofiegaaGreat
variable {a:Act}{listed:Array Bool}{ops:Array Oper}{d:jD}{Q:Exit→Act→World→Prop}{f:aQ}{r z:Int}{rest:List Oper}{L:List Sp}{ss:List dx}{base c g i id k lo:Nat}{P:Program}{T:aT}{α:Type}{e:TypeId}{v:Value}{x:aJ}{W w0:World}{C:World→Prop}
section
variable {P:Program} {Q:Exit→Act→World→Prop} {K:Act→World→Prop} {a:Act} {w:World}
theorem ad6{Q':Exit→Act→World→Prop}(hn:∀a w,Q' .normal a w→Q .normal a w)(hp:∀c a w,Q' (.panic c) a w→Q (.panic c) a w)(hl:LetsOut Q'→LetsOut Q):∀(l:List Oper) (a:Act) (w:World),wpList P ops Q' l a w→wpList P ops Q l a w
 |[],a,w,h=>hn a w h
 |o::rest,a,w,h=>by
  unfold wpList at h ⊢;split
  ·rename_i hw;rw[aG hw]at h;rcases h with h|⟨h1,h2⟩
   ·exact .inl (Uz (λa2 w2 h=>ad6 hn hp hl rest a2 w2 h) (aFJ hp hl h))
   ·exact .inr ⟨h1,hl h2⟩
  ·rename_i hw;rw[aD hw]at h;exact ad6 hn hp hl rest _ _ h
theorem aB9(R:Act→World→Prop){l:List Oper}(h1:Stop (wpList P ops (Exit.then R Q) l a w))(h2:Stop (∀a w,R a w→K a w)):Stop (wpList P ops (Exit.then K Q) l a w):=
 ⟨ad6 (Q:=Exit.then K Q) (Q':=Exit.then R Q) (λa w h=>h2.o a w h) (λ_ _ _ h=>h) (λ⟨x,y,h⟩=>⟨x,y,h⟩) _ _ _ h1.o⟩
end
section
variable {T:aT} (ht:Ia T)
include ht
theorem ah2:kG T=true↔∃c,qA T 0 (T.length-1) c:=by
 unfold kG;rw[FU];constructor
 ·rintro⟨s,hs,h⟩;have hs0:s≠[]:=wu;obtain⟨n,hn,rfl⟩:=mr hs;have e:(iG T (T.length-1))[n]=aP (iG T (T.length-1)) n:=aA3;rw[e]at hs0;obtain⟨a,l,hl⟩:=List.exists_cons_of_ne_nil hs0;have hv:=(M5 ht (T.length-1) n).1 a (by rw[hl];simp);obtain⟨c,hc,_⟩:=(QD ht (T.length-1) n a.1).1 (by rw[hl,mem_cons];exact .inl ⟨ae,hv⟩);exact⟨c,hc⟩
 ·rintro⟨c,hc⟩;have:=(QD ht (T.length-1) (c (T.length-1)).1 (c (T.length-1)).2).2 ⟨c,hc,rfl⟩;by_cases hn:(c (T.length-1)).1<(iG T (T.length-1)).length
  ·refine⟨_,eu hn,?_⟩;have e:(iG T (T.length-1))[(c (T.length-1)).1]=aP (iG T (T.length-1)) (c (T.length-1)).1:=aA3;rw[e];have h0:aP (iG T (T.length-1)) (c (T.length-1)).1≠[]:=λh=>by rw[h]at this;exact absurd this (gU _)
   simpa using h0
  ·unfold aP at this;rw[bN,wT ae,Option.getD_none]at this;exact absurd this (gU _)
end
theorem awU{s:Shape α}(h0:0<s.n){w:World}(h1:∀ {cs:List Value} {x:α},s.reads (λ_=>True) w cs x→∀u∈cs,u.oneCell'=true){ad:Addr}{xs:List α}(h:aC s w (.slice (some ad) xs.length c) xs):
  ∃css:List (List Value),css.length=xs.length∧css.flatten.length=xs.length*s.n∧(∀u∈css.flatten,u.oneCell'=true)∧(∀k,(h:k<xs.length)→(g:k<css.length)→s.reads (λ_=>True) w css[k] xs[k])∧∀W,BL w W→∀j u,css.flatten[j]?=some u→W.cell? (ad.add j)=some u:=by
 obtain⟨css,hcl,hcn,hcr,hcc⟩:=Shape.raw h0 h;refine⟨css,hcl,?_,?_,hcr,λW hW j u hj=>?_⟩
 ·rw[←hcl];clear hcr hcc hcl
  induction css with
  |nil=>simp
  |cons d css ih=>
   have e1:d.length=s.n:=hcn d aj;rw[J6,dn,ih (λx hx=>hcn x (Cv _ hx)),dS,e1,Zy];omega
 ·intro u hu;obtain⟨d,hd,hu⟩:=Uq.1 hu;obtain⟨k,hk,rfl⟩:=mr hd;exact h1 (hcr k ae hk) u hu
 ·exact(hW.cell (p:=ad.add j) (lt_of_cell (hcc j u hj))).trans (hcc j u hj)
theorem LM{s:Shape α}{o:Oper}{w:World}(hgd:o.guard=none)(sl x:Operand)(t:TypeId)
  (ho:o.op=.call { callee:=.builtin .append,args:=#[sl,x],argTypes:=#[t,t] })
  (base:Nat) (e:TypeId) (i:TypeInfo) (z:Value) (bytes:Nat) (ht:P.underlying t=some (.slice e)) (hi:P.info? e=some i) (hz:i.zero=some z)
  (hsize:i.size=s.n) (hby:i.bytes=bytes) (hzs:z.cells.size=s.n) (g:Nat) (hg:w.heap[g]?=some (.cells #[] e (0,0))) (hbg:base≤g) (hs:a.eval sl=.slice (some ⟨g,0,none⟩) 0 0)
  (h0:0<s.n) (h1:∀ {cs:List Value} {x:α},s.reads (λ_=>True) w0 cs x→∀u∈cs,u.oneCell'=true) (v:Value) (xs:List α) (hv:aC s w0 v xs) (hb:BL w0 w) (hx:a.eval x=v) (hl:xs.length≤1000000) (hbytes:xs.length*bytes≤140737488355328)
  (h:∀v' w' (css:List (List Value)),css.length=xs.length→(∀k,(h:k<xs.length)→(g:k<css.length)→s.reads (λ_=>True) w0 css[k] xs[k])→w'.ownsRow base e s.n v' xs.length css.flatten→BL w w'→wpList P ops Q rest (a.put o.dst v') w'):wpList P ops Q (o::rest) a w:=by
 obtain⟨ad,c,rfl,hc1,hc2⟩:=hv.shape;rcases ad with _|ad
 ·have e0:xs=[]:=by
   rcases pJ xs.length with h|h
   ·exact jo h
   ·obtain⟨b,o,cs,e,_⟩:=hv.at h;cases e
  subst e0;refine Jv hgd λK hK=>?_
  have hr:(Builtin.append_ #[t,t] o.type #[.slice (some ⟨g,0,none⟩) 0 0,.slice none 0 c]).run P w=.ok (.slice (some ⟨g,0,none⟩) 0 0) w:=by
   simp[Builtin.append_,amb ht,sizeOf,typeInfo,hi,Builtin.lenOf,Builtin.firstCells,loadCells,loadCellsFrom,storeCells]
  unfold Oper.wp execOp;simp only[ho,resolve,invoke,builtin,wU,Ke,AB,PY,oG,Av,hs,hx,fU,hr];exact hK _ _ (h _ _ [] rfl (λk hk=>by simp at hk) ⟨aj,.inr ⟨g,0,#[],aj,hbg,hg,aj,aj,aj,aj⟩⟩ (aB _ _))
 ·obtain⟨css,r1,r2,r3,r4,r5⟩:=awU h0 h1 hv;exact anV w hgd sl x t ho base e i z s.n bytes ht hi hz hsize hby hzs g hg hbg hs ad xs.length c css.flatten hx r2 (r5 w hb) r3 lD hbytes λv' w' k1 k2=>h v' w' css r1 r4 k1 k2
theorem axU{s:Shape α}{xs:List α}{cs:List (List Value)}(ho:W.ownsRow base e s.n v xs.length cs.flatten)(h1:cs.length=xs.length)
  (r1:∀k,(h:k<xs.length)→(g:k<cs.length)→s.reads (λ_=>True) w0 cs[k] xs[k]) (hb:BL w0 W) (hbase:w0.heap.size≤base):Own s (λ_=>True) W base e v xs:=by
 refine⟨cs,h1,ho,λk hk g=>?_⟩;have a1:s.reads (λb=>b<w0.heap.size) w0 cs[k] xs[k]:=s.mono (r1 k hk g) λb hb _=>hb;have a2:=s.keep a1 (w':=W) ⟨hb.size,λb hl _=>hb.block b hl⟩;refine s.mono a2 λb _ hl=>⟨trivial,λe1=>?_⟩;have:=(ho.lt b e1.symm).1;omega
theorem ab5{s:Shape α}{enc:α→List Value}(hp:Plain s enc){ad:Option Addr}{n:Nat}{xs:List α}(h:aC s W (.slice ad n c) xs)(hne:(Value.slice ad n c).ownBlock≠some g):s.list.reads (λb=>True∧b≠g) W [.slice ad n c] xs:=by
 obtain⟨a',c',e,h1,h2,h3⟩:=h;simp only[oC,qY,qZ]at e;obtain⟨rfl,rfl,rfl⟩:=e;refine⟨ad,c,rfl,h1,h2,λh0=>?_⟩;obtain⟨b,o,e,hb,hA,hr⟩:=h3 h0;subst e;refine⟨b,o,rfl,hb,⟨trivial,λe=>hne (by rw[e];rfl)⟩,λk hk=>?_⟩;obtain⟨cs,g1,g2⟩:=hr k hk;exact⟨cs,hp.2 (hp.1 g1),g2⟩
section
attribute [local go_sem] Qv
theorem axs(ss:List dx)(T:aT)(lo:Nat)(y:Sp):lX ss T lo y 0=T:=rfl
end
structure yY(x:aJ)(f:aQ)(L:List Sp)(z:Int)(c:Nat→Nat×Int):Prop where
 zero:z∈iw f
 crs:qA (bQ x f f.station z) 0 x.ticks.toNat c
 term:Mem (jS (aL x f) z c x.term.toNat) L
section
variable {x y:aJ} (h:kS x y) {i:Nat} {f g:aQ} (hf:x.sheets[i]?=some f) (hg:y.sheets[i]?=some g)
include h hf hg
theorem kS.rcrs{M:List Sp}(hx:fM x)(Vl:∀v,Mem v M→Mem v L){c:Nat→Nat×Int}(hc:yY y g M z c):yY x f L z c:=by
 have ht:=hx.term;refine⟨by rw[←h.zeros hf hg];exact hc.zero,?_,?_⟩
 ·have:=hc.crs;rw[h.ticks,(h.sh i f g hf hg).2]at this;exact h.crs hf hg ae this
 ·have:=hc.term;rw[h.list hf hg,h.term]at this;exact Vl _ this
end
theorem kS.terms{y:aJ}(h:kS x y)(hx:fM x)(hfit:Fits x)(hy:fM y)(sH:Fits y){g:aQ}(hf:x.sheets[i]?=some f)(hg:y.sheets[i]?=some g){M:List Sp}(hL:qH x i L)(hM:qH y i M){v:Int}(hv:Mem v M):Mem v L:=by
 rw[GK hg hM]at hv;rw[GK hf hL];obtain⟨h1,m,hm,h2,h3⟩:=hv;rw[h.hgt hf hg]at h2 h3;exact⟨h.own hf hg hx hfit hy sH h1,m,h.sol hx hfit hy sH hm,h2,h3⟩
theorem alb(hx:fM x)(hf:qG x f)(cO:gG x f=false)(hL:bF L)(hk:(k:Int)≤x.ticks)(v:Int):Mem v (pV (aL x f) (bT x f f.station x.term.toNat L false) k)↔∃z c,yY x f L z c∧jS (aL x f) z c k=v:=by
 have ht:=hx.term;rw[Rz hx hf cO hL ae hk];exact⟨λ⟨z,hz,c,h1,h2,h3⟩=>⟨z,c,⟨hz,h1,h2⟩,h3⟩,λ⟨z,c,h,h3⟩=>⟨z,h.zero,c,h.crs,h.term,h3⟩⟩
theorem kS.levels{y:aJ}(h:kS x y)(hx:dA x=0){i:Int}{l l':List (List Sp)}(hl:Eb x i l)(hl':Eb y i l'):qx l' l=true:=by
 obtain⟨-,hfit,-,f,L,h0,hf,hL,rfl⟩:=hl;obtain⟨hy,sH,-,g,M,-,hg,hM,rfl⟩:=hl';have hxo:=ma hx;have EF:=ma hy;obtain⟨a1,a2⟩:=Bj hxo hfit hf;obtain⟨b1,b2⟩:=Bj EF sH hg;unfold xq;rw[h.ticks];have e:aL y g=aL x f:=h.list hf hg
 have key:∀k:Nat,(k:Int)≤x.ticks→∀v,Mem v (pV (aL x f) (bT y g g.station y.term.toNat M false) k)→Mem v (pV (aL x f) (bT x f f.station x.term.toNat L false) k):=by
  intro k hk v hv;rw[←e,alb EF b1 b2 hM.1 (by rw[h.ticks];exact hk)]at hv;rw[alb hxo a1 a2 hL.1 hk];obtain⟨z,c,hc,e2⟩:=hv;rw[e]at e2;exact⟨z,c,h.rcrs hf hg hxo (λv hv=>h.terms hxo hfit EF sH hf hg hL hM hv) hc,e2⟩
 rw[e];exact Xm key
theorem acm{tick:Nat}{b:Sp}{n:Nat}(ht:tick<T.length):aI (aN (kT ss T tick b) k) n=if k=tick then((aI (aN T tick) n).1,((aI (aN T tick) n).2.map (uw ss n b)).filter λe=>decide (e.2.1≤e.2.2))else aI (aN T k) n:=by
 unfold kT;rw[EW];by_cases e:tick=k
 ·subst e;rw[aG ⟨rfl,ht⟩,aG rfl];by_cases hn:n<(aN T tick).length
  ·unfold aI;rw[bN,Ct,PW hn];rfl
  ·rw[lW bC,lW ae];rfl
 ·rw[aD (λh=>e h.1),aD (λh=>e h.symm)]
def vv(ss:List dx)(z:Int)(c:Nat→Nat×Int)(k:Nat)(b:Sp):Prop:=b.1≤jS ss z c (k+1)-jS ss z c k∧jS ss z c (k+1)-jS ss z c k≤b.2
theorem ahJ(z:Int){tick:Nat}{b:Sp}(ht:tick+1<T.length)(c:Nat→Nat×Int):qA (kT ss T tick b) 0 (T.length-1) c↔qA T 0 (T.length-1) c∧vv ss z c tick b:=by
 have akG:∀k,(aI (aN (kT ss T tick b) k) (c k).1).1=(aI (aN T k) (c k).1).1:=by
  intro k;rw[acm ae];by_cases e:k=tick
  ·rw[aG e,e]
  ·rw[aD e]
 have Gr:∀k,k≠tick→(aI (aN (kT ss T tick b) k) (c k).1).2=(aI (aN T k) (c k).1).2:=by
  intro k e;rw[acm ae,aD e]
 have abU:(∃ch,(((c (tick+1)).1:Int),ch)∈(aI (aN (kT ss T tick b) tick) (c tick).1).2∧ch.1≤(c (tick+1)).2-(c tick).2∧(c (tick+1)).2-(c tick).2≤ch.2)↔(∃ch,(((c (tick+1)).1:Int),ch)∈(aI (aN T tick) (c tick).1).2∧ch.1≤(c (tick+1)).2-(c tick).2∧(c (tick+1)).2-(c tick).2≤ch.2)∧vv ss z c tick b:=by
  rw[acm ae,aG rfl];dsimp only;unfold vv jS;constructor
  ·rintro⟨ch,hm,h1,h2⟩;obtain⟨hm,-⟩:=r9.1 hm;obtain⟨⟨t,ch'⟩,hm2,e⟩:=dz.1 hm;unfold uw at e;cases e;have e0:(Int.ofNat (c (tick+1)).1).toNat=(c (tick+1)).1:=rfl;dsimp only at h1 h2 ⊢;rw[e0]at h1 h2;exact⟨⟨ch',hm2,ae,ae⟩,ae,ae⟩
  ·rintro⟨⟨ch,hm,h1,h2⟩,h3,h4⟩;refine⟨_,r9.2 ⟨dz.2 ⟨_,hm,rfl⟩,?_⟩,?_,?_⟩
   ·simp only[uw,FQ,dG];omega
   ·simp only[uw,FQ];omega
   ·simp only[uw,FQ];omega
 constructor
 ·intro h;refine⟨⟨λk a e=>by have:=h.al k a e;rw[akG]at this;exact this,λk a e=>?_⟩,(abU.1 (h.ed tick ae ae)).2⟩;by_cases ek:k=tick
  ·subst ek;exact(abU.1 (h.ed k a e)).1
  ·have:=h.ed k a e;rw[Gr k ek]at this;exact this
 ·rintro⟨h,hc⟩;refine⟨λk a e=>by rw[akG];exact h.al k a e,λk a e=>?_⟩;by_cases ek:k=tick
  ·subst ek;exact abU.2 ⟨h.ed k a e,hc⟩
  ·rw[Gr k ek];exact h.ed k a e
theorem acn(ss:List dx)(T:aT)(lo:Nat)(y:Sp)(m:Nat):(lX ss T lo y m).length=T.length:=by
 induction m with
 |zero=>rfl
 |succ m ih=>rw[RF,aac,ih]
theorem ahK{ss:List dx}{T:aT}(z:Int){lo:Nat}{b:Sp}(c:Nat→Nat×Int):∀m,lo+m<T.length→(qA (lX ss T lo b m) 0 (T.length-1) c↔qA T 0 (T.length-1) c∧∀j,j<m→vv ss z c (lo+j) b)
 |0,_=>by rw[axs];exact⟨λh=>⟨h,λj hj=>by omega⟩,λh=>h.1⟩
 |m+1,hm=>by
  have ih:=ahK (ss:=ss) (T:=T) (lo:=lo) (b:=b) z c m ae;have:=ahJ (ss:=ss) (T:=lX ss T lo b m) z (tick:=lo+m) (b:=b) (by rw[acn];omega) c;rw[acn]at this;rw[RF,this,ih];constructor
  ·rintro⟨⟨h1,h2⟩,h3⟩;refine⟨h1,λj hj=>?_⟩;by_cases e:j=m
   ·subst e;exact h3
   ·exact h2 j ae
  ·rintro⟨h1,h2⟩;exact⟨⟨h1,λj hj=>h2 j ae⟩,h2 m ae⟩
theorem anr{n:Nat}(h:wV n T)(lo:Nat)(b:Sp):∀m,wV n (lX ss T lo b m)
 |0=>h
 |m+1=>by rw[RF];exact UZ (anr h lo b m) _ _ _
section
variable {x:aJ} {f:aQ} (hx:fM x) (hf:qG x f) (cO:gG x f=false) {L:List Sp} (hL:bF L)
include hx hf cO hL
theorem alE(P:aT→Bool)(R:Int→(Nat→Nat×Int)→Prop)
  (hP:∀T z,Ib x f (T,z)→(P T=true↔∃c,qA T 0 x.ticks.toNat c∧R z c)) :
  ((bT x f f.station x.term.toNat L false).map (·.1)).any P=true↔∃z c,yY x f L z c∧R z c:=by
 have ht:=hx.term;rw[FU]
 have e1:∀z∈iw f,(x.term.toNat<(bQ x f f.station z).length)∧(bQ x f f.station z).length-1=x.ticks.toNat:=by
  intro z hz;have:=(UW hx hf cO f.station hz).len;dsimp only at this;omega
 constructor
 ·rintro⟨T,hT0,hp⟩;obtain⟨⟨T,z⟩,hT,rfl⟩:=dz.1 hT0;have hz:=GL hx hf cO (λ_=>hL) hT;obtain⟨c,hc,hr⟩:=(hP T z hz).1 hp;unfold bT at hT;obtain⟨z',hz',hT⟩:=iB.1 hT;rw[aD aj]at hT;obtain⟨p,hpp,e⟩:=dz.1 hT;cases e;obtain⟨e2,e3⟩:=e1 _ hz';have:=(aao (ss:=aL x f) (zero:=z) (L:=p) e2 c);rw[e3]at this;obtain⟨h1,h2⟩:=this.1 hc;exact⟨z,c,⟨hz',h1,Wl.2 ⟨p,hpp,h2⟩⟩,hr⟩
 ·rintro⟨z,c,⟨hz,hc,hm⟩,hr⟩;obtain⟨p,hp,hm⟩:=Wl.1 hm;obtain⟨e2,e3⟩:=e1 _ hz
  have hmem:(kZ (aL x f) (bQ x f f.station z) z x.term.toNat p,z)∈bT x f f.station x.term.toNat L false:=by
   unfold bT;exact iB.2 ⟨z,hz,ay6⟩
  refine⟨_,dz.2 ⟨_,hmem,rfl⟩,?_⟩;have hz2:=GL hx hf cO (λ_=>hL) hmem;have:=(aao (ss:=aL x f) (zero:=z) (L:=p) e2 c);rw[e3]at this;exact(hP _ z hz2).2 ⟨c,this.2 ⟨hc,hm⟩,hr⟩
theorem amT{hi:Nat}(hhi:(hi:Int)<x.ticks)(b:Sp):
  ((bT x f f.station x.term.toNat L false).map (·.1)).any (λT=>xR (aL x f) T lo hi b)=true↔∃z c,yY x f L z c∧∃k,lo≤k∧k≤hi∧vv (aL x f) z c k b:=by
 refine alE hx hf cO hL _ _ λT z hz=>?_;have hlen:=hz.len;dsimp only at hlen
 have key:∀k,k≤hi→(kG (kT (aL x f) T k b)=true↔∃c,qA T 0 x.ticks.toNat c∧vv (aL x f) z c k b):=by
  intro k hk;rw[ah2 ((UZ hz.nods _ _ _).trkB ae).trk,aac];simp only[ahJ (ss:=aL x f) z (show k+1<T.length from ae)];rw[show T.length-1=x.ticks.toNat from ae]
 unfold xR;rw[FU];constructor
 ·rintro⟨j,hj,hq⟩;have hj:=fD.1 hj;obtain⟨c,hc,hd⟩:=(key (lo+j) ae).1 hq;exact⟨c,hc,lo+j,ae,ae,hd⟩
 ·rintro⟨c,hc,k,h1,h2,hd⟩;refine⟨k-lo,fD.2 ae,(key (lo+(k-lo)) ae).2 ⟨c,hc,?_⟩⟩;rw[show lo+(k-lo)=k from ae];exact hd
theorem aln{hi:Nat}(hlo:lo≤hi)(hhi:(hi:Int)<x.ticks)(b:Sp):
  ((bT x f f.station x.term.toNat L false).map (·.1)).any (λT=>kG (lX (aL x f) T lo b (hi+1-lo)))=true↔∃z c,yY x f L z c∧∀k,lo≤k→k≤hi→vv (aL x f) z c k b:=by
 refine alE hx hf cO hL _ _ λT z hz=>?_;have hlen:=hz.len;dsimp only at hlen;rw[ah2 ((anr hz.nods _ _ _).trkB ae).trk,acn];simp only[ahK (ss:=aL x f) z _ (hi+1-lo) (show lo+(hi+1-lo)<T.length from ae)];rw[show T.length-1=x.ticks.toNat from ae];constructor
 ·rintro⟨c,hc,hd⟩;refine⟨c,hc,λk h1 h2=>?_⟩;have:=hd (k-lo) ae
  rwa[show lo+(k-lo)=k from ae]at this
 ·rintro⟨c,hc,hd⟩;exact⟨c,hc,λj hj=>hd (lo+j) ae ae⟩
end
theorem ak2{st:Int}{c:Nat→Nat×Int}(hc:qA (bQ x f st z) 0 x.ticks.toNat c)(ht:0≤x.ticks)(hk:(k:Int)≤x.ticks):0≤jS (aL x f) z c k∧jS (aL x f) z c k≤12000:=
 akO ae (adF ae) (hc.al k ae ae)
theorem aCu{c:Nat→Nat×Int}(h1:0≤jS ss z c k∧jS ss z c k≤12000)(h2:0≤jS ss z c (k+1)∧jS ss z c (k+1)≤12000)(h:¬vv ss z c k (wH r)):vv ss z c k (vS r):=by
 unfold vv wH vS at *;split at h
 ·rename_i h0;rw[if_pos h0];dsimp only at *;omega
 ·rename_i h0;rw[if_neg h0];dsimp only at *;omega
theorem aBF(hx:fM x)(hfit:Fits x)(hw:iK x)(hf:x.sheets[i]?=some f)(hL:qH x i L):∃z c,yY x f L z c:=by
 obtain⟨m,hm⟩:=hw;obtain⟨h1,h2⟩:=Bj hx hfit hf;obtain⟨v,hv,a,b⟩:=hm.mem i f hf;have hv':=hv;have ht:=hx.term;unfold ko at hv';rw[I5 hx h1 h2 ae]at hv';obtain⟨z,hz,c,hc,e⟩:=hv';exact⟨z,c,hz,hc,by rw[e,GK hf hL];exact⟨hv,m,hm,a,b⟩⟩
theorem kS.front{y:aJ}(h:kS x y){i tk td n n':Int}(hn:CF x i tk td r n)(hn':CF y i tk td r n')(h1:n≠1):n'=n:=by
 obtain⟨hx,hs,hfit,hw,f,L,hf,hL,e⟩:=hn;obtain⟨hy,-,sH,hwy,g,M,hg,hM,e'⟩:=hn';have hxo:=ma hx;have EF:=ma hy;obtain⟨hi,h2,h3,h4,-⟩:=Sr hs;obtain⟨a1,a2⟩:=Bj hxo hfit hf;obtain⟨b1,b2⟩:=Bj EF sH hg;have Vl:∀v,Mem v M→Mem v L:=λv hv=>h.terms hxo hfit EF sH hf hg hL hM hv;have hhi:(((td-1).toNat:Nat):Int)<x.ticks:=ae;have hlo:tk.toNat≤(td-1).toNat:=ae;have hhy:(((td-1).toNat:Nat):Int)<y.ticks:=by rw[h.ticks];exact hhi
 have sx:=amT hxo a1 a2 hL.1 (lo:=tk.toNat) hhi (wH r);have sy:=amT EF b1 b2 hM.1 (lo:=tk.toNat) hhy (wH r);have nx:=aln hxo a1 a2 hL.1 hlo hhi (vS r);have ny:=aln EF b1 b2 hM.1 hlo hhy (vS r);have el:=h.list hf hg
 have m1:(∃z c,yY y g M z c∧∃k,tk.toNat≤k∧k≤(td-1).toNat∧vv (aL y g) z c k (wH r))→∃z c,yY x f L z c∧∃k,tk.toNat≤k∧k≤(td-1).toNat∧vv (aL x f) z c k (wH r):=by
  rintro⟨z,c,hc,q⟩;rw[el]at q;exact⟨z,c,h.rcrs hf hg hxo Vl hc,q⟩
 have m2:(∃z c,yY y g M z c∧∀k,tk.toNat≤k→k≤(td-1).toNat→vv (aL y g) z c k (vS r))→∃z c,yY x f L z c∧∀k,tk.toNat≤k→k≤(td-1).toNat→vv (aL x f) z c k (vS r):=by
  rintro⟨z,c,hc,q⟩;rw[el]at q;exact⟨z,c,h.rcrs hf hg hxo Vl hc,q⟩
 rw[←sx,←sy]at m1;rw[←nx,←ny]at m2
 have m3:¬(∃z c,yY y g M z c∧∀k,tk.toNat≤k→k≤(td-1).toNat→vv (aL y g) z c k (vS r))→∃z c,yY y g M z c∧∃k,tk.toNat≤k∧k≤(td-1).toNat∧vv (aL y g) z c k (wH r):=by
  intro hno;obtain⟨z,c,hc⟩:=aBF EF sH hwy hg hM;refine⟨z,c,hc,Classical.byContradiction λhq=>hno ⟨z,c,hc,λk k1 k2=>?_⟩⟩;have ht:=EF.ticks;exact aCu (ak2 hc.crs ae ae) (ak2 hc.crs ae (by push_cast;omega)) λhy=>hq ⟨k,k1,k2,hy⟩
 rw[←ny,←sy]at m3;unfold QC MU at e e';generalize (List.map (·.1) (bT x f f.station x.term.toNat L false)).any (λT=>xR (aL x f) T tk.toNat (td-1).toNat (wH r))=sX at *;generalize (List.map (·.1) (bT y g g.station y.term.toNat M false)).any (λT=>xR (aL y g) T tk.toNat (td-1).toNat (wH r))=sY at *;generalize (List.map (·.1) (bT x f f.station x.term.toNat L false)).any (λT=>kG (lX (aL x f) T tk.toNat (vS r) ((td-1).toNat+1-tk.toNat)))=nX at *;generalize (List.map (·.1) (bT y g g.station y.term.toNat M false)).any (λT=>kG (lX (aL y g) T tk.toNat (vS r) ((td-1).toNat+1-tk.toNat)))=nY at *;subst e e';clear sx sy nx ny
 revert m1 m2 m3 h1
 cases sX<;>cases sY<;>cases nX<;>cases nY<;>simp
theorem ak8{w:aJ}{st:Int}{ink:List (List Sp)}{last zero:Int}{s:dx}{tick v:Int}:Mem v (lM w f st ink last zero s tick)↔
  ¬((decide (tick=0)&&!(decide (s.1=-1) || (decide (s.1=0)&&decide (s.2.1=0)))) || (decide (tick=w.ticks)&&!decide (s.1=last)))=true∧((rQ w.reads st tick (s.2.2+zero)).1≤v∧v≤(rQ w.reads st tick (s.2.2+zero)).2)∧
   (¬(s.1=-1∨s.2.1≠0)→¬(f.marks.any λm=>decide (m.1=s.1)&&!(decide (m.2.1≤tick)&&decide (tick≤m.2.2)))=true∧(ink.getD s.1.toNat []≠[]→Mem v (ink.getD s.1.toNat []))):=by
 unfold lM;dsimp only;generalize ((decide (tick=0)&&!(decide (s.1=-1) || (decide (s.1=0)&&decide (s.2.1=0)))) || (decide (tick=w.ticks)&&!decide (s.1=last)))=b0;generalize (f.marks.any λm=>decide (m.1=s.1)&&!(decide (m.2.1≤tick)&&decide (tick≤m.2.2)))=b1;generalize rQ w.reads st tick (s.2.2+zero)=u;generalize ink.getD s.1.toNat []=k
 cases b0 with
 |true=>simp[gU]
 |false=>
  rw[aD aj];have h1:Mem v [u]↔u.1≤v∧v≤u.2:=by rw[mem_cons];exact⟨λh=>h.resolve_right (gU v),λh=>.inl h⟩
  by_cases hu:u.2<u.1
  ·rw[aG hu];refine⟨λh=>absurd h (gU v),λh=>?_⟩;have:=h.2.1;omega
  ·rw[aD hu];by_cases hp:s.1=-1∨s.2.1≠0
   ·rw[aG hp,h1];exact⟨λh=>⟨aj,h,λq=>absurd hp q⟩,λh=>h.2.1⟩
   ·rw[aD hp]
    cases b1 with
    |true=>
     rw[aG rfl];exact⟨λh=>absurd h (gU v),λh=>absurd rfl (h.2.2 hp).1⟩
    |false=>
     rw[aD aj];by_cases hk:k=[]
     ·rw[aG hk,h1];exact⟨λh=>⟨aj,h,λ_=>⟨aj,λq=>absurd hk q⟩⟩,λh=>h.2.1⟩
     ·rw[aD hk,Bd,h1];exact⟨λh=>⟨aj,h.1,λ_=>⟨aj,λ_=>h.2⟩⟩,λh=>⟨h.2.1,(h.2.2 hp).2 hk⟩⟩
theorem ayA(l:List je)(r:je)(st tick b:Int):(rQ l st tick b).1≤(rQ (l++[r]) st tick b).1∧(rQ (l++[r]) st tick b).2≤(rQ l st tick b).2:=by
 unfold rQ;rw[Mv,xO,List.foldl_nil];split<;>(try dsimp only)<;>omega
def LJ(x:aJ)(l:List je):aJ:={ x with reads:=l }
theorem alg(x:aJ)(r:je):kS x (LJ x (x.reads++[r])):=by
 refine⟨rfl,rfl,rfl,rfl,rfl,rfl,rfl,λi f g hf hg=>?_,λi f g hf hg st ink last zero s tick v hv=>?_⟩
 ·have hg:x.sheets[i]?=some g:=hg;rw[hf]at hg;cases hg;exact⟨rfl,rfl⟩
 ·have hg:x.sheets[i]?=some g:=hg;rw[hf]at hg;cases hg;rw[ak8]at hv ⊢;have:=ayA x.reads r st tick (s.2.2+zero);obtain⟨h1,⟨h2,h3⟩,h4⟩:=hv;exact⟨h1,⟨Int.le_trans this.1 h2,Int.le_trans h3 this.2⟩,h4⟩
theorem aBB{r:je}(h:dA (LJ x (x.reads++[r]))=0):dA x=0:=by
 rw[adW]at h ⊢;obtain⟨h1,h2,h3,h4,h5,h6,h7,h8,h9⟩:=h;refine⟨h1,h2,h3,h4,h5,h6,?_,h8,?_⟩
 ·have:(x.reads++[r]).length≤64:=h7;rw[dn]at this;omega
 ·have:(x.reads++[r]).all (oW x)=true:=h9;rw[List.all_append,bW]at this;exact this.1
def nQ(f:aQ)(m:xP):aQ:={ f with marks:=f.marks++[m] }
theorem alf(x:aJ)(i:Nat)(f:aQ)(hf:x.sheets[i]?=some f)(m:xP):kS x (gI x (x.sheets.set i (nQ f m))):=by
 have key:∀(k:Nat) (f' g:aQ),x.sheets[k]?=some f'→(x.sheets.set i (nQ f m))[k]?=some g→g=f'∨f'=f∧g=nQ f m:=by
  intro k f' g h1 h2;rw[List.getElem?_set]at h2;by_cases e:i=k
  ·subst e;have:=(gN.1 hf).1;rw[aG rfl,aG this]at h2;cases h2;rw[hf]at h1;cases h1;exact .inr ⟨rfl,rfl⟩
  ·rw[aD e,h1]at h2;cases h2;exact .inl rfl
 refine⟨rfl,rfl,rfl,rfl,rfl,rfl,by simp[gI],λk f' g h1 h2=>?_,λk f' g h1 h2 st ink last zero s tick v hv=>?_⟩
 ·rcases key k f' g h1 h2 with rfl|⟨rfl,rfl⟩<;>exact⟨rfl,rfl⟩
 ·rcases key k f' g h1 h2 with rfl|⟨rfl,rfl⟩
  ·exact hv
  ·rw[ak8]at hv ⊢;obtain⟨a,b,c⟩:=hv;refine⟨a,b,λhp=>?_⟩;obtain⟨d,e⟩:=c hp;refine⟨λq=>d ?_,e⟩;show((f'.marks++[m]).any _)=true
   rw[agd,q,Bool.true_or]
theorem aw1{l:List xP}{m:xP}(h:(oO d (l++[m])).1=0):(oO d l).1=0:=by
 unfold oO at h ⊢;by_cases hd:jQ d=true
 ·rw[aG hd]at h ⊢;by_cases h1:64<(l++[m]).length
  ·rw[aG h1]at h;cases h
  ·rw[aD h1]at h;rw[dn]at h1;rw[aD ae]
   cases e:l.findIdx? (λx=>!EK d x)with
   |none=>rfl
   |some i=>
    exfalso;have:(l++[m]).findIdx? (λx=>!EK d x)=some i:=by rw[List.findIdx?_append,e];rfl
    rw[this]at h;cases h
 ·rw[aD hd]at h;cases h
theorem aBA(hf:x.sheets[i]?=some f){m:xP}(h:dA (gI x (x.sheets.set i (nQ f m)))=0):dA x=0:=by
 rw[adW]at h ⊢;obtain⟨h1,h2,h3,h4,h5,h6,h7,⟨h8,h9⟩,h10⟩:=h;have hi:=(gN.1 hf).1;have h8:∀g∈x.sheets.set i (nQ f m),lZ x g=true:=h8;have h9:(x.sheets.set i (nQ f m)).Pairwise λf g=>f.station<g.station:=h9;refine⟨h1,h2,h3,h4,h5,?_,h7,⟨λg hg=>?_,?_⟩,h10⟩
 ·have:(x.sheets.set i (nQ f m)).length≤64:=h6;rw[qW]at this;exact this
 ·obtain⟨k,hk,rfl⟩:=mr hg;by_cases e:i=k
  ·subst e;have e1:x.sheets[i]=f:=(gN.1 hf).2;have h11:=h8 (nQ f m) (by rw[List.mem_iff_getElem];exact⟨i,by rw[qW];exact hk,by rw[Mx]⟩);rw[e1];unfold lZ at h11 ⊢;simp only[bW,dG]at h11 ⊢;exact⟨h11.1,aw1 h11.2⟩
  ·exact h8 _ (by rw[List.mem_iff_getElem];exact⟨k,by rw[qW];exact hk,by rw[Un e]⟩)
 ·have hmap:(x.sheets.set i (nQ f m)).map (·.station)=x.sheets.map (·.station):=by
   rw[List.map_set];refine oD aj λk g1 g2=>?_;rw[Mw];split
   ·rename_i e;subst e;rw[lK,(gN.1 hf).2];rfl
   ·rfl
  have:((x.sheets.set i (nQ f m)).map (·.station)).Pairwise (·<·):=MC.2 h9;rw[hmap,MC]at this;exact this
theorem ald{y:aJ}(h:kS x y)(hw:dA y=0→dA x=0){i:Int}{l':List (List Sp)}(hl':Eb y i l'):¬PQ x i∧∀l,Eb x i l→qx l' l=true:=by
 have hx:=hw hl'.1;exact⟨h.ok hx hl',λl hl=>h.levels hx hl hl'⟩
section
attribute [local go_sem] Qv
theorem axp(x:aJ)(i r:Int){tk:Int}(ht:-9223372036854775808≤tk∧tk≤9223372036854775807):
  ∃td,IntKind.i64.wrap (tk+1)=td∧(∀n,CF x i tk td r n→CF x i tk (tk+1) r n)∧(Qe x i tk td r→Qe x i tk (tk+1) r):=by
 by_cases h:tk=9223372036854775807
 ·subst h;refine⟨_,rfl,λn hn=>?_,λ_ hb=>?_⟩
  ·have:=Sr hn.2.1;have e:IntKind.i64.wrap (9223372036854775807+1)=-9223372036854775808:=aW;rw[e]at this;omega
  ·have h1:=Sr hb.2.1;have h2:=(ma hb.1).ticks;omega
 ·exact⟨tk+1,dE _ ae,λ_ h=>h,λh=>h⟩
theorem adR(x:aJ)(cx:List Value)(i tk r:Int)(w:World)(hx:dM w x cx)(ht:-9223372036854775808≤tk∧tk≤9223372036854775807):
  Calls prog 15 #[.agg cx.toArray,i,tk,r] w (Uj (CF x i tk (tk+1) r) (Qe x i tk (tk+1) r) w):=by
 have bZ:=U hx;have bE:=U hx.len;obtain⟨td,hw,hok,hbad⟩:=axp x i r ht;have wn:IntKind.i64.wrap (tk+1)=td:=hw;have dO:=U hok;have HBAD:=U hbad;clear hx ht hw hok hbad;go_in;go_wp2_with (with_reducible_and_instances refine dI 10 ?_)
 have HX0:=U (Bx.new (W:=w) (t:=30) (vs:=cx) rfl);have HB0:=U (Bl.alloc (aB w.heap.size w) (.cells cx.toArray 30));generalize w.alloc (.cells cx.toArray 30)=w0 at *;refine⟨?_⟩;have HC:=U (Cx.whole HX0.o);go_wp2_with (refine dh bK rfl HC.o bE.o ?_)
 refine(adS x cx i tk td r w0 (bZ.o.below HB0.o)).mono ?_;rintro e w1 ⟨hb1',hP⟩;have HB1:=U (Bl.call HB0.o hb1');clear hb1';rcases hP with⟨q,h0,h,rfl⟩|⟨n,h,rfl⟩
 ·have HQ:=U h0;have HF:=U h;clear h h0;go_wp2;go_ret2;exact⟨HB1.o,.inl ⟨q,HQ.o,HBAD.o HF.o,rfl⟩⟩
 ·have HF:=U h;clear h;go_wp2;go_ret2;exact⟨HB1.o,.inr ⟨n,dO.o n HF.o,rfl⟩⟩
end
section
variable {P:Program} {ops:Array Oper} {Q:Exit→Act→World→Prop} {mt mv:List Nat} {D:World→Prop}
def qQ(P:Program)(ops:Array Oper)(mt:List Nat)(D:World→Prop)(Q:Exit→Act→World→Prop):PO→Act→(World→Prop)→Prop
 |.fin l,a,C=>wpQuiet P ops C (λa'=>∀w',C w'→Q .normal a' w') l a
 |.one e lq m o r,a,C=>wpQuiet P ops C (λa'=>∀w',C w'→wpList P ops (dU Q λa'' w''=>dV (mt.contains m) C w'' e∧(∀w,aO e w'' w→D w)∧qQ P ops mt D Q r a'' (aO e w'')) [o] a' w') lq a
 |.two lq e1 m1 o1 r1 e2 m2 o2 r2,a,C=>wpQuiet P ops C (λa'=>(∀w',C w'→wpList P ops (dU Q λa'' w''=>dV (mt.contains m1) C w'' e1∧(∀w,aO e1 w'' w→D w)∧qQ P ops mt D Q r1 a'' (aO e1 w'')) [o1] a' w')∧∀w',C w'→wpList P ops (dU Q λa'' w''=>dV (mt.contains m2) C w'' e2∧(∀w,aO e2 w'' w→D w)∧qQ P ops mt D Q r2 a'' (aO e2 w'')) [o2] a' w') lq a
 |.three ..,_,_=>False
 |.pur l r,a,C=>wpQuiet P ops D (λa'=>qQ P ops mt D Q r a' C) l a
theorem anP:∀(fuel:Nat) (listed:Array Bool) (a:Act) (C:World→Prop),mf P ops mt mv Q D fuel listed a C→mf P ops mt mv Q D (fuel+1) listed a C
 |0,_,_,_,h=>⟨λ_=>h.2,λi hi=>acQ⟩
 |fuel+1,_,_,_,h=>⟨h.1,λi hi w' hw=>Jw (λa w ⟨C',h1,hd,h2,h3,hk⟩=>⟨C',h1,hd,h2,h3,anP fuel _ a C' hk⟩) (h.2 i hi w' hw)⟩
theorem anO{n m:Nat}(h:n≤m)(k:mf P ops mt mv Q D n listed a C):mf P ops mt mv Q D m listed a C:=by
 induction h with
 |refl=>exact k
 |step _ ih=>exact anP _ _ _ _ ih
theorem acf{e m:Nat}{o:Oper}{K:Act→(World→Prop)→Prop}{K':Act→(World→Prop)→Prop}{w:World}(ho:ops[m]?=some o)(hv:mv.contains m=true)(hk:∀a w,(∀w',aO e w w'→D w')→K a (aO e w)→K' a (aO e w))
  (h1:wpList P ops (dU Q λa'' w''=>dV (mt.contains m) C w'' e∧(∀w,aO e w'' w→D w)∧K a'' (aO e w'')) [o] a w) :
  wpOp P ops Q m (λa' w''=>∃C',C' w''∧(∀w,C' w→D w)∧(m∈mt∨∀w,C' w→C w)∧(m∈mv∨C'=C)∧K' a' C') a w:=by
 have key:∀a2 w2,dU Q (λa'' w''=>dV (mt.contains m) C w'' e∧(∀w,aO e w'' w→D w)∧K a'' (aO e w'')) .normal a2 w2→∃C',C' w2∧(∀w,C' w→D w)∧(m∈mt∨∀w,C' w→C w)∧(m∈mv∨C'=C)∧K' a2 C':=by
  rintro a2 w2 ⟨h2,hd,h3⟩;exact⟨aO e w2,Qw e w2,hd,h2.imp aj id,.inl WM,hk _ _ hd h3⟩
 unfold wpOp;simp only[ho];simp only[wpList]at h1;by_cases hw:Region.wanted o (yielded ops a.tmps)=true
 ·rw[aG hw]at h1 ⊢;rcases h1 with h1|⟨h1,h2⟩
  ·exact .inl (Uz (λa2 w2 h=>key a2 w2 h) (aFJ (Q:=Q) (λ_ _ _ h=>h) (λ⟨x,y,h⟩=>⟨x,y,h⟩) h1))
  ·exact .inr ⟨h1,let ⟨x,y,h⟩:=h2;⟨x,y,h⟩⟩
 ·rw[aD hw]at h1 ⊢;exact key _ _ h1
theorem Sw(hsel:Region.noSelect ops=true)(hQ:∀c a d v w,Q (.panic c) (a.put d v) w→Q (.panic c) a w):∀(p:PT) (po:PO) (listed:Array Bool) (a:Act) (C:World→Prop),(∀w,C w→D w)→
  yF (λi=>ops[i]?) p po→nT ops mt mv p listed=true→listed.size=ops.size→Dn ops listed→qQ P ops mt D Q po a C→mf P ops mt mv Q D (kr p) listed a C
 |.fin q,.fin l,listed,a,C,hC,hm,hB,hz,hD,h=>by
  simp only[nT,bW]at hB;have:=MH (fuel:=0) (mt:=mt) (mv:=mv) (C:=C) hsel hQ hC q l listed a hm hB.1 hz hD (uW (λa' h=>show mf P ops mt mv Q D 0 (bM listed q) a' C from⟨WL,h⟩) l a h);simpa[kr]using this
 |.one e q m r,.one e' l m' o r',listed,a,C,hC,hm,hB,hz,hD,h=>by
  obtain⟨rfl,rfl,hq,ho,hr'⟩:=hm;simp only[nT,bW]at hB;obtain⟨⟨⟨hs,hr⟩,hv⟩,hB⟩:=hB;have hr:Region.ready .any ops (bM listed q)=[m]:=zK;have rE:=Dn.setL q hD hs;have rF:(bM listed q).size=ops.size:=(ww q listed).trans hz;have hmr:m∈Region.ready .any ops (bM listed q):=Ji;refine MH (fuel:=kr r+1) (mt:=mt) (mv:=mv) (C:=C) hsel hQ hC q l listed a hq hs hz hD (uW (λa' hl=>?_) l a h);refine⟨λh0=>Le,λj hj w' hw'=>?_⟩;rw[hr]at hj;obtain rfl:j=m:=Ls;exact acf (K:=λa C=>qQ P ops mt D Q r' a C) ho hv (λa w hd h=>Sw hsel hQ r r' _ a _ hd hr' hB Dz (rE.set hmr) h) (hl w' hw')
 |.two q e1 m1 r1 e2 m2 r2,.two l Iq m1' o1 r1' e2' m2' o2 r2',listed,a,C,hC,hm,hB,hz,hD,h=>by
  obtain⟨hq,⟨rfl,rfl,ho1,hr1⟩,rfl,rfl,ho2,hr2⟩:=hm;simp only[nT,bW]at hB;obtain⟨⟨⟨⟨⟨hs,hr⟩,hv1⟩,hv2⟩,hB1⟩,hB2⟩:=hB;have hr:Region.ready .any ops (bM listed q)=[m1,m2]:=zK;have rE:=Dn.setL q hD hs;have rF:(bM listed q).size=ops.size:=(ww q listed).trans hz;have abz:m1∈Region.ready .any ops (bM listed q):=Ji;have abA:m2∈Region.ready .any ops (bM listed q):=Ji;refine MH (fuel:=max (kr r1) (kr r2)+1) (mt:=mt) (mv:=mv) (C:=C) hsel hQ hC q l listed a hq hs hz hD (uW (λa' hl=>?_) l a h);refine⟨λh0=>Le,λj hj w' hw'=>?_⟩;rw[hr]at hj;rcases(by simpa using hj:j=m1∨j=m2)with rfl|rfl
  ·exact acf (K:=λa C=>qQ P ops mt D Q r1' a C) ho1 hv1 (λa w hd h=>anO (Uv _ _) (Sw hsel hQ r1 r1' _ a _ hd hr1 hB1 Dz (rE.set abz) h)) (hl.1 w' hw')
  ·exact acf (K:=λa C=>qQ P ops mt D Q r2' a C) ho2 hv2 (λa w hd h=>anO (Zz _ _) (Sw hsel hQ r2 r2' _ a _ hd hr2 hB2 Dz (rE.set abA) h)) (hl.2 w' hw')
 |.pur q r,.pur l r',listed,a,C,hC,hm,hB,hz,hD,h=>by
  simp only[nT,bW]at hB;exact UH (fuel:=kr r) hsel hQ hC q l listed a hm.1 hB.1 hz hD (uW (λa' hl=>Sw hsel hQ r r' _ a' _ hC hm.2 hB.2 ((ww q listed).trans hz) (Dn.setL0 q hD hB.1) hl) l a h)
 |.three ..,.three ..,_,_,_,_,_,_,_,_,h=>h.elim
 |.three ..,.fin _,_,_,_,_,hm,_,_,_,_=>hm.elim
 |.three ..,.one ..,_,_,_,_,hm,_,_,_,_=>hm.elim
 |.three ..,.two ..,_,_,_,_,hm,_,_,_,_=>hm.elim
 |.three ..,.pur ..,_,_,_,_,hm,_,_,_,_=>hm.elim
 |.fin _,.three ..,_,_,_,_,hm,_,_,_,_=>hm.elim
 |.one ..,.three ..,_,_,_,_,hm,_,_,_,_=>hm.elim
 |.two ..,.three ..,_,_,_,_,hm,_,_,_,_=>hm.elim
 |.pur ..,.three ..,_,_,_,_,hm,_,_,_,_=>hm.elim
 |.pur ..,.fin _,_,_,_,_,hm,_,_,_,_=>hm.elim
 |.pur ..,.one ..,_,_,_,_,hm,_,_,_,_=>hm.elim
 |.pur ..,.two ..,_,_,_,_,hm,_,_,_,_=>hm.elim
 |.fin _,.pur ..,_,_,_,_,hm,_,_,_,_=>hm.elim
 |.one ..,.pur ..,_,_,_,_,hm,_,_,_,_=>hm.elim
 |.two ..,.pur ..,_,_,_,_,hm,_,_,_,_=>hm.elim
 |.fin _,.one ..,_,_,_,_,hm,_,_,_,_=>hm.elim
 |.fin _,.two ..,_,_,_,_,hm,_,_,_,_=>hm.elim
 |.one ..,.fin _,_,_,_,_,hm,_,_,_,_=>hm.elim
 |.one ..,.two ..,_,_,_,_,hm,_,_,_,_=>hm.elim
 |.two ..,.fin _,_,_,_,_,hm,_,_,_,_=>hm.elim
 |.two ..,.one ..,_,_,_,_,hm,_,_,_,_=>hm.elim
theorem aB0{l:List Oper}{w:World}(mt mv:List Nat)(e0:Nat)(pre:List Nat)(p:PT)(l0:List Oper)(po:PO)
  (hB:(Region.noSelect l.toArray&&oZ l.toArray pre (Array.replicate l.toArray.size false)&&nT l.toArray mt mv p (bM (Array.replicate l.toArray.size false) pre)&&decide (kr p+pre.length≤l.toArray.size))=true)
  (h0:pre.map (eX l)=l0.map some) (hp:yF (eX l) p po)
  (hQ:∀c a d v w,Q (.panic c) (a.put d v) w→Q (.panic c) a w) (hD0:∀w',aO (e0+1) w w'→D w') (h:wpQuiet P l.toArray D (λa'=>qQ P l.toArray mt D Q po a' (aO (e0+1) w)) l0 a):wpAny P .any l.toArray Q l.toArray.size (Array.replicate l.toArray.size false) a w.drew:=by
 have ha:eX l=λi=>l.toArray[i]?:=funext (MN l);rw[ha]at h0 hp;simp only[bW,dG]at hB
 have hw:aO (e0+1) w w.drew:=by
  cases e0
  ·exact⟨1,rfl⟩
  ·exact CB.iff.2 ⟨rfl,rfl,rfl,aV _,λ_ _=>rfl⟩
 have hDn:Dn l.toArray (Array.replicate l.toArray.size false):=by
  intro k o ho hk;have:k<l.toArray.size:=(nu.1 ho).1;simp[Array.getD]at hk this;omega
 have key:=uW (C:=D) (λa' h=>show mf P l.toArray mt mv Q D (kr p) (bM (Array.replicate l.toArray.size false) pre) a' (aO (e0+1) w)from Sw hB.1.1.1 hQ p po _ a' _ hD0 hp hB.1.2 ((ww _ _).trans aj) (Dn.setL0 pre hDn hB.1.1.2) h) l0 a h;exact Xo hB.2 (adZ (mt:=mt) (mv:=mv) _ _ a _ _ hw (UH hB.1.1.1 hQ hD0 pre l0 _ a h0 hB.1.1.2 aj hDn key))
theorem an4{l:List Oper}{w:World}(D:World→Prop)(mt mv:List Nat)(e0:Nat)(pre:List Nat)(p:PT)(l0:List Oper)(po:PO)(hD0:∀w',aO (e0+1) w w'→D w')(h:wpQuiet P l.toArray D (λa'=>qQ P l.toArray mt D Q po a' (aO (e0+1) w)) l0 a)(hm:P.follows .mixedOrders=true:=by kernel_rfl)(hB:(Region.noSelect l.toArray&&oZ l.toArray pre (Array.replicate l.toArray.size false)&&nT l.toArray mt mv p (bM (Array.replicate l.toArray.size false) pre)&&decide (kr p+pre.length≤l.toArray.size))=true:=by kernel_rfl)(h0:pre.map (eX l)=l0.map some:=by rfl)(hp:yF (eX l) p po:=by repeat' (first|rfl|apply And.intro))(hQ:∀c a d v w,Q (.panic c) (a.put d v) w→Q (.panic c) a w:=by intro _ _ d _ _ h;cases d<;>exact h):(Code.region id l.toArray true).wp P Q a w:=
 an2 hm (aB0 mt mv e0 pre p l0 po hB h0 hp hQ hD0 h)
section
variable {e m e1 m1 e2 m2:Nat} {lq:List Oper} {o o1 o2:Oper} {r r1 r2:PO} {a:Act} {b:World}
theorem Ol(h:wpList P ops (dU Q λa'' w''=>dV (mt.contains m) (aO 0 b) w'' e∧(∀w,aO e w'' w→D w)∧qQ P ops mt D Q r a'' (aO e w'')) [o] a b):qQ P ops mt D Q (.one e [] m o r) a (aO 0 b):=λw' hw=>Ij
theorem Om(h:wpQuiet P ops (λw'=>∃n,w'=b.drewN n) (λa'=>∀n,wpList P ops (dU Q λa'' w''=>dV (mt.contains m) (aO 1 b) w'' e∧(∀w,aO e w'' w→D w)∧qQ P ops mt D Q r a'' (aO e w'')) [o] a' (b.drewN n)) lq a):qQ P ops mt D Q (.one e lq m o r) a (aO 1 b):=
 uW (C:=λw'=>∃n,w'=b.drewN n) (λ_ h w' ⟨n,hn⟩=>hn ▸ h n) lq a h
theorem Jr(h:∀w',BL b w'→wpList P ops (dU Q λa'' w''=>dV (mt.contains m) (aO 2 b) w'' e∧(∀w,aO e w'' w→D w)∧qQ P ops mt D Q r a'' (aO e w'')) [o] a w'):qQ P ops mt D Q (.one e [] m o r) a (aO 2 b):=λw' hw=>h w' (CB.iff.1 hw)
theorem WZ(h1:∀w',BL b w'→wpList P ops (dU Q λa'' w''=>dV (mt.contains m1) (aO 2 b) w'' e1∧(∀w,aO e1 w'' w→D w)∧qQ P ops mt D Q r1 a'' (aO e1 w'')) [o1] a w')
  (h2:∀w',BL b w'→wpList P ops (dU Q λa'' w''=>dV (mt.contains m2) (aO 2 b) w'' e2∧(∀w,aO e2 w'' w→D w)∧qQ P ops mt D Q r2 a'' (aO e2 w'')) [o2] a w'):qQ P ops mt D Q (.two [] e1 m1 o1 r1 e2 m2 o2 r2) a (aO 2 b):=⟨λw' hw=>h1 w' (CB.iff.1 hw),λw' hw=>h2 w' (CB.iff.1 hw)⟩
end
theorem Oj{w:World}(h:Q .normal a w):qQ P ops mt D Q (.fin []) a (aO 0 w):=λw' hw=>Ij
end
section
open Go.ChangeShapes Go.WideShapes Go.ChangeAt
section
variable {H:Type} {enc:TypeId×Value→H} {W:World} {base b0:Nat} {spare:Nat→Bool} {held:Bool} {r:Reach} {v:Value} {d:DataW H} {ps:List MemPlace}
theorem ayy(hval:Value.okWide prog W r b0 43 v)(h:DataW.Trod enc prog W base spare held 43 v d ps):∃y:je,v=.agg #[y.1,y.2.1,y.2.2.1,y.2.2.2.1,y.2.2.2.2]:=by
 obtain⟨cs,e,y,hy⟩:=Wi underlying43 alA hval h;have:=yE.1 hy;subst this;exact⟨y,e⟩
theorem axd(hval:Value.okWide prog W r b0 45 v)(h:DataW.Trod enc prog W base spare held 45 v d ps):∃y:xP,v=.agg #[y.1,y.2.1,y.2.2]:=by
 obtain⟨cs,e,y,hy⟩:=Wi underlying45 (Wh underlying45 rfl rfl aF) hval h;have:=jC.1 hy;subst this;exact⟨y,e⟩
end
theorem av6{n:Int}(h:(Lit.int .i64 n).wf=true):-9223372036854775808≤n∧n≤9223372036854775807:=by
 simpa[Lit.wf,IntKind.min,IntKind.max,IntKind.signed,IntKind.bits]using h
def FT(cs:List Value):Prop:=∃n:Int,cs=[.int .i64 n]∧-9223372036854775808≤n∧n≤9223372036854775807
section
variable {H:Type} {enc:TypeId×Value→H} {W:World} {base b0:Nat} {spare:Nat→Bool} {held:Bool} {r:Reach} {v:Value} {d:DataW H} {ps:List MemPlace}
theorem bO.intW:bO enc W 3 FT:=by
 intro base spare held fuel cs x h;obtain⟨n,e,-,hw⟩:=DataW.trod_int underlying3 h;exact⟨n,e,av6 hw⟩
theorem aqH(hval:Value.okWide prog W r b0 47 v)(h:DataW.Trod enc prog W base spare held 47 v d ps):∃s0 s1 s2 s3 s4 s5 s6:Int,v=.agg #[s0,s1,s2,s3,s4,s5,s6]∧-9223372036854775808≤s2∧s2≤9223372036854775807:=by
 obtain⟨cs,e,h⟩:=Wi underlying47 (bO.struct (Rs:=[FT,FT,FT,FT,FT,FT,FT]) underlying47 aF ⟨bO.intW,bO.intW,bO.intW,bO.intW,bO.intW,bO.intW,bO.intW,trivial⟩) hval h;simp only[rX,FT]at h;obtain⟨_,_,rfl,⟨s0,rfl,-⟩,_,_,rfl,⟨s1,rfl,-⟩,_,_,rfl,⟨s2,rfl,h2⟩,_,_,rfl,⟨s3,rfl,-⟩,_,_,rfl,⟨s4,rfl,-⟩,_,_,rfl,⟨s5,rfl,-⟩,_,_,rfl,⟨s6,rfl,-⟩,rfl⟩:=h;exact⟨s0,s1,s2,s3,s4,s5,s6,e,h2⟩
end
end
end Go.Proofs.YtfmckbjeofiegaaGreat
