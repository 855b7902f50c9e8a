/- Part 4 of a proof. -/
import Derived.Test.YtfmckbjeofiegaaGreatA1
import Derived.Test.YtfmckbjeofiegaaGreatA2
set_option maxRecDepth 100000
set_option maxHeartbeats 16000000
set_option linter.all false
open Go Go.RowKit Go.Proofs.Tryz
namespace Go.Proofs.YtfmckbjeofiegaaGreat
variable {cs:List Value}{base' c k:Nat}{A:Nat→Prop}{α:Type}{vr vt:Value}{x:aJ}{w':World}
def Shape.one{α:Type}(s:Shape (List α)):Shape (List α):=s
def Shape.trip:Shape (Int×Sp):=Shape.int.pair Shape.span
theorem jC:Plain Shape.trip λp=>[p.1,p.2.1,p.2.2]:=NS yD mE
def Shape.pnt:Shape dF:=Shape.int.pair Shape.span
theorem NT:Plain Shape.pnt λp=>[p.1,p.2.1,p.2.2]:=NS yD mE
def Shape.rdg:Shape je:=Shape.int.pair (Shape.int.pair (Shape.int.pair Shape.span))
theorem yE:Plain Shape.rdg λp=>[p.1,p.2.1,p.2.2.1,p.2.2.2.1,p.2.2.2.2]:=NS yD (NS yD (NS yD mE))
section
variable {α β:Type} {A:Nat→Prop} {w:World} {cs:List Value}
theorem av5{t:Shape β}{p:Int×β}:(Shape.int.pair t).reads A w cs p↔∃d,cs=.int .i64 p.1::d∧t.reads A w d p.2:=by
 constructor
 ·rintro⟨c,d,e,h1,h2⟩;have h3:c=[.int .i64 p.1]:=h1;subst h3;exact⟨d,e,h2⟩
 ·rintro⟨d,rfl,h⟩;exact⟨_,d,rfl,rfl,h⟩
theorem awJ{s:Shape α}{t:Shape β}{p:List α×β}:(s.list.pair t).reads A w cs p↔∃v d,cs=v::d∧s.list.reads A w [v] p.1∧t.reads A w d p.2:=by
 constructor
 ·rintro⟨c,d,rfl,h1,h2⟩;have h1':=h1;obtain⟨a,n,e,_⟩:=h1';exact⟨_,d,by rw[e];rfl,by rw[←e];exact h1,h2⟩
 ·rintro⟨v,d,rfl,h1,h2⟩;exact⟨[v],d,rfl,h1,h2⟩
theorem EI{s:Shape α}{xs:List α}:s.list.reads A w cs xs↔∃v,cs=[v]∧s.list.reads A w [v] xs:=by
 constructor
 ·intro h;have h':=h;obtain⟨a,n,e,_⟩:=h';exact⟨_,e,by rw[←e];exact h⟩
 ·rintro⟨v,rfl,h⟩;exact h
end
def Shape.sta:Shape iC:=Shape.int.pair (Shape.int.pair (Shape.int.pair Shape.trip.list))
theorem BD{w:World}{s:iC}:Shape.sta.reads A w cs s↔∃v,cs=[.int .i64 s.1,.int .i64 s.2.1,.int .i64 s.2.2.1,v]∧Shape.trip.list.reads A w [v] s.2.2.2:=by
 unfold Shape.sta;simp only[av5];constructor
 ·rintro⟨_,rfl,_,rfl,d,rfl,h⟩;obtain⟨v,rfl,h⟩:=EI.1 h;exact⟨v,rfl,h⟩
 ·rintro⟨v,rfl,h⟩;exact⟨_,rfl,_,rfl,_,rfl,h⟩
def Shape.nod:Shape dK:=Shape.span.list.pair Shape.trip.list
theorem zz{w:World}{s:dK}:Shape.nod.reads A w cs s↔∃u v,cs=[u,v]∧Shape.span.list.reads A w [u] s.1∧Shape.trip.list.reads A w [v] s.2:=by
 unfold Shape.nod;rw[awJ];constructor
 ·rintro⟨u,d,rfl,h1,h⟩;obtain⟨v,rfl,h⟩:=EI.1 h;exact⟨u,v,rfl,h1,h⟩
 ·rintro⟨u,v,rfl,h1,h⟩;exact⟨u,[v],rfl,h1,h⟩
def uR(p:bU):List Value:=[.int .i64 p.pitch,.int .i64 p.height,.int .i64 p.radius,.int .i64 p.low,.int .i64 p.high,.int .i64 p.cols,.int .i64 p.al.1,.int .i64 p.al.2,.int .i64 p.ac.1,.int .i64 p.ac.2]
def iq(s:vJ)(vt vb vr vs:Value):List Value:=uR s.paper++[vt,vb,vr,vs,.int .i64 s.band,.int .i64 s.zlo,.int .i64 s.zhi,.int .i64 s.rate]
def nU(A:Nat→Prop)(w:World)(s:vJ)(vt vb vr vs:Value):Prop:=
 Shape.pnt.list.reads A w [vt] s.trace∧Shape.int.list.reads A w [vb] s.blots∧Shape.span.list.reads A w [vr] s.drum.1∧Shape.trip.list.reads A w [vs] s.drum.2
theorem nU.keep{w:World}{s:vJ}{vb vs:Value}(h:nU A w s vt vb vr vs)(k:Same A w w'):nU A w' s vt vb vr vs:=
 ⟨Shape.keep _ h.1 k,Shape.keep _ h.2.1 k,Shape.keep _ h.2.2.1 k,Shape.keep _ h.2.2.2 k⟩
theorem nU.mono{A':Nat→Prop}{w:World}{s:vJ}{vb vs:Value}(h:nU A w s vt vb vr vs)(k:∀b,b<w.heap.size→A b→A' b):nU A' w s vt vb vr vs:=
 ⟨Shape.mono _ h.1 k,Shape.mono _ h.2.1 k,Shape.mono _ h.2.2.1 k,Shape.mono _ h.2.2.2 k⟩
def iW(f:aQ)(vt vb vr vs vm vn:Value):List Value:=[.int .i64 f.clerk,.int .i64 f.num,.int .i64 f.station,.int .i64 f.week]++(iq f.sheet vt vb vr vs++[vm,vn])
def Shape.fil:Shape aQ where
 n:=24
 reads A w cs f:=∃vt vb vr vs vm vn,cs=iW f vt vb vr vs vm vn∧nU A w f.sheet vt vb vr vs∧Shape.trip.list.reads A w [vm] f.marks∧Shape.span.list.reads A w [vn] f.names
 len:=λ⟨_,_,_,_,_,_,h,_⟩=>by rw[h];rfl
 keep:=λ⟨vt,vb,vr,vs,vm,vn,h,h1,h2,h3⟩ k=>⟨vt,vb,vr,vs,vm,vn,h,h1.keep k,Shape.keep _ h2 k,Shape.keep _ h3 k⟩
 mono:=λ⟨vt,vb,vr,vs,vm,vn,h,h1,h2,h3⟩ k=>⟨vt,vb,vr,vs,vm,vn,h,h1.mono k,Shape.mono _ h2 k,Shape.mono _ h3 k⟩
def dm(x:aJ)(va vs vr:Value):List Value:=[va,.int .i64 x.fixed,.int .i64 x.each,.int .i64 x.term,.int .i64 x.ticks,.int .i64 x.clerks,.int .i64 x.week,vs,vr]
structure UJ(w:World)(x:aJ)(va vs vr:Value):Prop where
 stas:aC Shape.sta w va x.stas
 sheets:aC Shape.fil w vs x.sheets
 reads:aC Shape.rdg w vr x.reads
theorem UJ.below{w:World}{va vs:Value}(h:UJ w x va vs vr)(k:BL w w'):UJ w' x va vs vr:=⟨h.stas.below k,h.sheets.below k,h.reads.below k⟩
theorem aih{n:Nat}:∀ {css:List (List Value)},(∀c∈css,c.length=n)→∀(k j:Nat) (u:Value) (hk:k<css.length),j<n→css.flatten.set (k*n+j) u=(css.set k (css[k].set j u)).flatten
 |[],_,k,_,_,hk,_=>by simp at hk
 |c::css,h,0,j,u,_,hj=>by
  have:=h c aj;simp[List.set_append,this,hj]
 |c::css,h,k+1,j,u,hk,hj=>by
  have hc:=h c aj;have ih:=aih (css:=css) (λd hd=>h d (by simp[hd])) k j u BC hj;have e:(k+1)*n+j=c.length+(k*n+j):=by rw[hc,Aw];omega
  simp only[J6,Ed,Hz];rw[e,List.set_append_right _ _ ae];simp[ih]
section
variable {α:Type} {s:Shape α} {A:Nat→Prop} {w w':World} {v:Value} {xs:List α} {base:Nat} {e:TypeId}
theorem Same.setCell(w:World)(p:Addr)(u:Value):Same (λb=>b≠p.block) w (w.setCell p u):=Same.set (A:=λb=>b≠p.block) (λh=>h rfl) u
theorem Own.slot(h:Own s A w base e v xs)(hk:k<xs.length):∃g cap cs,v=.slice (some ⟨g,0,none⟩) xs.length cap∧base≤g∧g<w.heap.size∧xs.length≤cap∧cap≤maxLen∧
  s.reads (λb=>A b∧b≠g) w cs xs[k]∧(∀j,j<s.n→w.cell? ⟨g,k*s.n+j,none⟩=cs[j]?)∧(∀j,w.frozen? ⟨g,j,none⟩=false)∧
  ∀j u y,j<s.n→s.reads (λb=>A b∧b≠g) w (cs.set j u) y→Own s A (w.setCell ⟨g,k*s.n+j,none⟩ u) base e v (xs.set k y):=by
 obtain⟨css,h1,h2,h3⟩:=h
 have hlen:∀c∈css,c.length=s.n:=by
  intro c hc;obtain⟨i,hi,rfl⟩:=mr hc;exact s.len (h3 i ae hi)
 have hkc:k<css.length:=ae;have h2':=h2;rcases h2.2 with⟨_,h0⟩|⟨g,cap,cur,rfl,hb,hgg,hnc,hcm,hcs,ht⟩
 ·omega
 have zo:(Value.slice (some ⟨g,0,none⟩) xs.length cap).ownBlock=some g:=rfl;have hgl:=(h2'.lt g rfl).2
 have hrd:∀ {cs:List Value} {y:α} {W:World},s.reads (λb=>A b∧some b≠(Value.slice (some ⟨g,0,none⟩) xs.length cap).ownBlock) W cs y↔s.reads (λb=>A b∧b≠g) W cs y:=by
  intro cs y W;constructor
  ·intro h;exact s.mono h λb _ hb=>⟨hb.1,λe=>hb.2 (by rw[e,zo])⟩
  ·intro h;exact s.mono h λb _ hb=>⟨hb.1,λe=>hb.2 (by rw[zo]at e;exact P9 e)⟩
 have hcell:∀j,j<s.n→w.cell? ⟨g,k*s.n+j,none⟩=css[k][j]?:=by
  intro j hj;rw[←M4 hlen k j hkc hj]
  have hl:k*s.n+j<css.flatten.length:=by
   rw[h2'.1];have:(k+1)*s.n≤xs.length*s.n:=P7 _ hk;rw[Aw]at this;omega
  exact h2'.cellAt (k*s.n+j) (by rw[←h2'.1];exact hl)
 refine⟨g,cap,css[k],rfl,hb,hgl,hnc,hcm,hrd.1 (h3 k hk hkc),hcell,λj=>h2'.frozenAt j,?_⟩;intro j u y hj hr;have hst:=(h2'.stored (k*s.n+j) u).1;rw[aih hlen k j u hkc hj]at hst;refine⟨css.set k (css[k].set j u),by simp[h1],by simpa using hst,?_⟩;intro i hi hi2;have hsame:Same (λb=>A b∧b≠g) w (w.setCell ⟨g,k*s.n+j,none⟩ u):=(Same.setCell w _ u).mono λb hb=>hb.2;rw[hrd];by_cases hik:i=k
 ·subst hik;simp only[Mx];exact s.keep hr hsame
 ·simp only[Un (Ay hik)];exact s.keep (hrd.1 (h3 i Oe (by simpa using hi2))) hsame
theorem Own.base_le(h:Own s A w base e v xs)(hb:base'≤base):Own s A w base' e v xs:=by
 obtain⟨css,h1,h2,h3⟩:=h;refine⟨css,h1,⟨h2.1,?_⟩,h3⟩;rcases h2.2 with hn|⟨g,cap,cur,rfl,hb',rest⟩
 ·exact .inl hn
 ·exact .inr ⟨g,cap,cur,rfl,fK hb hb',rest⟩
theorem Own.mono{A':Nat→Prop}(h:Own s A w base e v xs)(k:∀b,b<w.heap.size→A b→A' b):Own s A' w base e v xs:=by
 obtain⟨css,h1,h2,h3⟩:=h;exact⟨css,h1,h2,λi hi hg=>s.mono (h3 i hi hg) λb hb ha=>⟨k b hb ha.1,ha.2⟩⟩
theorem Own.list(h:Own s A w base e v xs):aC s w v xs:=Shape.list_far h.lst
def Fb(s:Shape α)(A:Nat→Prop)(w:World)(base:Nat)(e:TypeId)(m:Nat)(f:Nat→Value)(X:Nat→List α):Prop:=
 (∀k,k<m→Own s A w base e (f k) (X k))∧∀j k b,j<m→k<m→j≠k→(f j).ownBlock=some b→(f k).ownBlock≠some b
theorem Fb.keep{m:Nat}{f:Nat→Value}{X:Nat→List α}(h:Fb s A w base e m f X)(hs:Same (λb=>A b∨∃k,k<m∧some b=(f k).ownBlock) w w'):Fb s A w' base e m f X:=
 ⟨λk hk=>(h.1 k hk).keep (hs.mono λb hb=>hb.elim .inl λhb=>.inr ⟨k,hk,hb⟩),h.2⟩
theorem Fb.below{m:Nat}{f:Nat→Value}{X:Nat→List α}(h:Fb s A w base e m f X)(hb:BL w w'):Fb s A w' base e m f X:=h.keep (Same.below hb)
theorem Fb.congr{m:Nat}{f g:Nat→Value}{X Y:Nat→List α}(h:Fb s A w base e m f X)(hf:∀k,k<m→g k=f k)(hX:∀k,k<m→Y k=X k):Fb s A w base e m g Y:=
 ⟨λk hk=>by rw[hf k hk,hX k hk];exact h.1 k hk,λj k b hj hk hne=>by rw[hf j hj,hf k hk];exact h.2 j k b hj hk hne⟩
end
def fw{α:Type}(p:α→Bool)(xs:List α):Int:=match xs.findIdx? p with|some k=>k|none=>-1
theorem IY{p:α→Bool}{xs:List α}(hk:k<xs.length)(hp:p xs[k]=true)(hn:∀j,(hj:j<xs.length)→j<k→p xs[j]=false):fw p xs=k:=by
 have:xs.findIdx? p=some k:=by
  rw[agj];refine⟨hk,hp,λj hj=>?_⟩;have:=hn j ae hj;simp[this]
 simp[fw,this]
theorem IZ{p:α→Bool}{xs:List α}(hn:∀j,(hj:j<xs.length)→p xs[j]=false):fw p xs=-1:=by
 have:xs.findIdx? p=none:=by
  rw[agi];intro x hx;obtain⟨j,hj,rfl⟩:=mr hx;exact hn j hj
 simp[fw,this]
theorem KP(p:α→Bool)(xs:List α):decide (0≤fw p xs)=xs.any p:=by
 unfold fw
 cases h:xs.findIdx? p with
 |none=>
  have:=agi.1 h;have e:xs.any p=false:=by rw[List.any_eq_false];intro x hx;simp[this x hx]
  rw[e];simp
 |some k=>
  obtain⟨hk,hp,_⟩:=agj.1 h;have e:xs.any p=true:=FU.2 ⟨_,eu hk,hp⟩;rw[e];simp
theorem aC.trip_at{w:World}{a:Option Addr}{n:Nat}{xs:List (Int×Int×Int)}(h:aC Shape.trip w (.slice a n c) xs)(hk:k<xs.length):
  ∃b o,a=some ⟨b,o,none⟩∧w.cell? ⟨b,o+k*3,none⟩=some (.int .i64 xs[k].1)∧w.cell? ⟨b,o+k*3+1,none⟩=some (.int .i64 xs[k].2.1)∧w.cell? ⟨b,o+k*3+2,none⟩=some (.int .i64 xs[k].2.2):=by
 obtain⟨b,o,e,h1⟩:=h.atP jC hk;have hn:Shape.trip.n=3:=rfl;rw[hn]at h1;exact⟨b,o,e,h1 0 ae,h1 1 ae,h1 2 ae⟩
theorem aC.rdg_at{w:World}{a:Option Addr}{n:Nat}{xs:List je}(h:aC Shape.rdg w (.slice a n c) xs)(hk:k<xs.length):
  ∃b o,a=some ⟨b,o,none⟩∧w.cell? ⟨b,o+k*5,none⟩=some (.int .i64 xs[k].1)∧w.cell? ⟨b,o+k*5+1,none⟩=some (.int .i64 xs[k].2.1)∧w.cell? ⟨b,o+k*5+2,none⟩=some (.int .i64 xs[k].2.2.1)∧w.cell? ⟨b,o+k*5+3,none⟩=some (.int .i64 xs[k].2.2.2.1)∧w.cell? ⟨b,o+k*5+4,none⟩=some (.int .i64 xs[k].2.2.2.2):=by
 obtain⟨b,o,e,h1⟩:=h.atP yE hk;have hn:Shape.rdg.n=5:=rfl;rw[hn]at h1;exact⟨b,o,e,h1 0 ae,h1 1 ae,h1 2 ae,h1 3 ae,h1 4 ae⟩
def ZH(g:Nat)(lb:Array Value)(p:(Int×Int)→Bool)(w:World):Prop:=
 ∀W x,BL w W→Calls prog g (#[.agg #[.int .i64 x.1,.int .i64 x.2]]++lb) W λe w'=>e=.returned (.bool (p x))∧BL W w'
def Ef(g:Nat)(lb:Array Value)(p:(Int×Int×Int)→Bool)(w:World):Prop:=
 ∀W x,BL w W→Calls prog g (#[.agg #[.int .i64 x.1,.int .i64 x.2.1,.int .i64 x.2.2]]++lb) W λe w'=>e=.returned (.bool (p x))∧BL W w'
def ZE(g:Nat)(lb:Array Value)(p:je→Bool)(w:World):Prop:=
 ∀W x,BL w W→Calls prog g (#[.agg #[.int .i64 x.1,.int .i64 x.2.1,.int .i64 x.2.2.1,.int .i64 x.2.2.2.1,.int .i64 x.2.2.2.2]]++lb) W λe w'=>e=.returned (.bool (p x))∧BL W w'
theorem avB(v:Value)(xs:List (Int×Int))(g:Nat)(lb:Array Value)(p:(Int×Int)→Bool)(w:World)(hv:aC Shape.span w v xs)(he:Enters prog g)(hg:ZH g lb p w):
  Calls prog 277 #[v,.func (.func g) #[] lb] w λe w'=>e=.returned (.int .i64 (fw p xs))∧BL w w':=by
 obtain⟨a,c,rfl,hc1,hc2⟩:=hv.shape;unfold maxLen at hc2;have HG:=U hg;clear hg;have he':∀(args:Array Value) (w:World),(callFunc g args).run prog w=.ok (.enter g args) w:=he;clear he;go_enter func277,ntmps277;go_wp2
 go_loopw [8] (λi wr=>∃k:Nat,k≤xs.length∧i=.int .i64 k∧BL w wr∧Hid (∀j,(hj:j<xs.length)→j<k→p xs[j]=false)) (λi _=>xs.length-(intOf i).toNat)
 case atStart=>exact⟨0,ae,rfl,aB _ _,λj _ hj=>ae⟩
 case round=>
  obtain⟨k,hk,rfl,hb,HN⟩:=hrel;by_cases hlt:k<xs.length
  ·obtain⟨b,o,rfl,c1,c2⟩:=(hv.below hb).span_at hlt;go_wp2_with fail;refine(HG.o _ xs[k] hb).mono ?_;rintro e w1 ⟨rfl,hb1⟩;cases hp:p xs[k]
   ·have HP:=U hp;clear hp;go_wp2;go_roundw
    case rel=>
     refine⟨k+1,ae,aY,Bl.call hb hb1,λj h1 hj=>?_⟩;by_cases e:j=k
     ·exact aFG
     ·exact HN.o j h1 ae
    case measure=>exact aFF
   ·have HF:Hid (fw p xs=k):=IY hlt hp HN.o;clear hp;go_wp2;go_ret;exact⟨gW HF.o.symm,Bl.call hb hb1⟩
  ·have HF:Hid (fw p xs=-1):=IZ (λj h1=>HN.o j h1 ae);go_wp2;go_ret;exact⟨gW HF.o.symm,hb⟩
theorem ar6(v:Value)(xs:List (Int×Int))(g:Nat)(lb:Array Value)(p:(Int×Int)→Bool)(w:World)(hv:aC Shape.span w v xs)(he:Enters prog g)(hg:ZH g lb p w):
  Calls prog 227 #[v,.func (.func g) #[] lb] w λe w'=>e=.returned (.bool (xs.any p))∧BL w w':=by
 have HF:Hid (decide (0≤fw p xs)=xs.any p):=U (KP p xs);go_enter func227,ntmps227;go_wp2_with (go_at_call 277;refine(avB v xs g lb p _ hv he hg).mono ?_;rintro e w' ⟨rfl,hb⟩)
 go_ret;exact⟨bu N7,qI⟩
theorem avD(v:Value)(xs:List (Int×Int×Int))(g:Nat)(lb:Array Value)(p:(Int×Int×Int)→Bool)(w:World)(hv:aC Shape.trip w v xs)(he:Enters prog g)(hg:Ef g lb p w):
  Calls prog 278 #[v,.func (.func g) #[] lb] w λe w'=>e=.returned (.int .i64 (fw p xs))∧BL w w':=by
 obtain⟨a,c,rfl,hc1,hc2⟩:=hv.shape;unfold maxLen at hc2;have HG:=U hg;clear hg;have he':∀(args:Array Value) (w:World),(callFunc g args).run prog w=.ok (.enter g args) w:=he;clear he;go_enter func278,ntmps278;go_wp2
 go_loopw [8] (λi wr=>∃k:Nat,k≤xs.length∧i=.int .i64 k∧BL w wr∧Hid (∀j,(hj:j<xs.length)→j<k→p xs[j]=false)) (λi _=>xs.length-(intOf i).toNat)
 case atStart=>exact⟨0,ae,rfl,aB _ _,λj _ hj=>ae⟩
 case round=>
  obtain⟨k,hk,rfl,hb,HN⟩:=hrel;by_cases hlt:k<xs.length
  ·obtain⟨b,o,rfl,c1,c2,c3⟩:=(hv.below hb).trip_at hlt;go_wp2_with fail;refine(HG.o _ xs[k] hb).mono ?_;rintro e w1 ⟨rfl,hb1⟩;cases hp:p xs[k]
   ·have HP:=U hp;clear hp;go_wp2;go_roundw
    case rel=>
     refine⟨k+1,ae,aY,Bl.call hb hb1,λj h1 hj=>?_⟩;by_cases e:j=k
     ·exact aFG
     ·exact HN.o j h1 ae
    case measure=>exact aFF
   ·have HF:Hid (fw p xs=k):=IY hlt hp HN.o;clear hp;go_wp2;go_ret;exact⟨gW HF.o.symm,Bl.call hb hb1⟩
  ·have HF:Hid (fw p xs=-1):=IZ (λj h1=>HN.o j h1 ae);go_wp2;go_ret;exact⟨gW HF.o.symm,hb⟩
theorem ar7(v:Value)(xs:List (Int×Int×Int))(g:Nat)(lb:Array Value)(p:(Int×Int×Int)→Bool)(w:World)(hv:aC Shape.trip w v xs)(he:Enters prog g)(hg:Ef g lb p w):
  Calls prog 228 #[v,.func (.func g) #[] lb] w λe w'=>e=.returned (.bool (xs.any p))∧BL w w':=by
 have HF:Hid (decide (0≤fw p xs)=xs.any p):=U (KP p xs);go_enter func228,ntmps228;go_wp2_with (go_at_call 278;refine(avD v xs g lb p _ hv he hg).mono ?_;rintro e w' ⟨rfl,hb⟩)
 go_ret;exact⟨bu N7,qI⟩
theorem akr(v:Value)(xs:List (Int×Int×Int))(g:Nat)(lb:Array Value)(p:(Int×Int×Int)→Bool)(w:World)(hv:aC Shape.trip w v xs)(he:Enters prog g)(hg:Ef g lb p w):
  Calls prog 229 #[v,.func (.func g) #[] lb] w λe w'=>e=.returned (.int .i64 (fw p xs))∧BL w w':=by
 obtain⟨a,c,rfl,hc1,hc2⟩:=hv.shape;unfold maxLen at hc2;have HG:=U hg;clear hg;have he':∀(args:Array Value) (w:World),(callFunc g args).run prog w=.ok (.enter g args) w:=he;clear he;go_enter func229,ntmps229;go_wp2
 go_loopw [8] (λi wr=>∃k:Nat,k≤xs.length∧i=.int .i64 k∧BL w wr∧Hid (∀j,(hj:j<xs.length)→j<k→p xs[j]=false)) (λi _=>xs.length-(intOf i).toNat)
 case atStart=>exact⟨0,ae,rfl,aB _ _,λj _ hj=>ae⟩
 case round=>
  obtain⟨k,hk,rfl,hb,HN⟩:=hrel;by_cases hlt:k<xs.length
  ·obtain⟨b,o,rfl,c1,c2,c3⟩:=(hv.below hb).trip_at hlt;go_wp2_with fail;refine(HG.o _ xs[k] hb).mono ?_;rintro e w1 ⟨rfl,hb1⟩;cases hp:p xs[k]
   ·have HP:=U hp;clear hp;go_wp2;go_roundw
    case rel=>
     refine⟨k+1,ae,aY,Bl.call hb hb1,λj h1 hj=>?_⟩;by_cases e:j=k
     ·exact aFG
     ·exact HN.o j h1 ae
    case measure=>exact aFF
   ·have HF:Hid (fw p xs=k):=IY hlt hp HN.o;clear hp;go_wp2;go_ret;exact⟨gW HF.o.symm,Bl.call hb hb1⟩
  ·have HF:Hid (fw p xs=-1):=IZ (λj h1=>HN.o j h1 ae);go_wp2;go_ret;exact⟨gW HF.o.symm,hb⟩
theorem ar2(v:Value)(xs:List (Int×Int×Int))(g:Nat)(lb:Array Value)(p:(Int×Int×Int)→Bool)(w:World)(hv:aC Shape.trip w v xs)(he:Enters prog g)(hg:Ef g lb p w):
  Calls prog 234 #[v,.func (.func g) #[] lb] w λe w'=>e=.returned (.bool (xs.any p))∧BL w w':=by
 have HF:Hid (decide (0≤fw p xs)=xs.any p):=U (KP p xs);go_enter func234,ntmps234;go_wp2_with (go_at_call 229;refine(akr v xs g lb p _ hv he hg).mono ?_;rintro e w' ⟨rfl,hb⟩)
 go_ret;exact⟨bu N7,qI⟩
theorem avy(v:Value)(xs:List je)(g:Nat)(lb:Array Value)(p:je→Bool)(w:World)(hv:aC Shape.rdg w v xs)(he:Enters prog g)(hg:ZE g lb p w):
  Calls prog 167 #[v,.func (.func g) #[] lb] w λe w'=>e=.returned (.int .i64 (fw p xs))∧BL w w':=by
 obtain⟨a,c,rfl,hc1,hc2⟩:=hv.shape;unfold maxLen at hc2;have HG:=U hg;clear hg;have he':∀(args:Array Value) (w:World),(callFunc g args).run prog w=.ok (.enter g args) w:=he;clear he;go_enter func167,ntmps167;go_wp2
 go_loopw [8] (λi wr=>∃k:Nat,k≤xs.length∧i=.int .i64 k∧BL w wr∧Hid (∀j,(hj:j<xs.length)→j<k→p xs[j]=false)) (λi _=>xs.length-(intOf i).toNat)
 case atStart=>exact⟨0,ae,rfl,aB _ _,λj _ hj=>ae⟩
 case round=>
  obtain⟨k,hk,rfl,hb,HN⟩:=hrel;by_cases hlt:k<xs.length
  ·obtain⟨b,o,rfl,c1,c2,c3,c4,c5⟩:=(hv.below hb).rdg_at hlt;go_wp2_with fail;refine(HG.o _ xs[k] hb).mono ?_;rintro e w1 ⟨rfl,hb1⟩;cases hp:p xs[k]
   ·have HP:=U hp;clear hp;go_wp2;go_roundw
    case rel=>
     refine⟨k+1,ae,aY,Bl.call hb hb1,λj h1 hj=>?_⟩;by_cases e:j=k
     ·exact aFG
     ·exact HN.o j h1 ae
    case measure=>exact aFF
   ·have HF:Hid (fw p xs=k):=IY hlt hp HN.o;clear hp;go_wp2;go_ret;exact⟨gW HF.o.symm,Bl.call hb hb1⟩
  ·have HF:Hid (fw p xs=-1):=IZ (λj h1=>HN.o j h1 ae);go_wp2;go_ret;exact⟨gW HF.o.symm,hb⟩
theorem ar4(v:Value)(xs:List je)(g:Nat)(lb:Array Value)(p:je→Bool)(w:World)(hv:aC Shape.rdg w v xs)(he:Enters prog g)(hg:ZE g lb p w):
  Calls prog 107 #[v,.func (.func g) #[] lb] w λe w'=>e=.returned (.bool (xs.any p))∧BL w w':=by
 have HF:Hid (decide (0≤fw p xs)=xs.any p):=U (KP p xs);go_enter func107,ntmps107;go_wp2_with (go_at_call 167;refine(avy v xs g lb p _ hv he hg).mono ?_;rintro e w' ⟨rfl,hb⟩)
 go_ret;exact⟨bu N7,qI⟩
theorem avw(v:Value)(xs:List (Int×Int×Int))(g:Nat)(lb:Array Value)(p:(Int×Int×Int)→Bool)(w:World)(hv:aC Shape.trip w v xs)(he:Enters prog g)(hg:Ef g lb p w):
  Calls prog 317 #[v,.func (.func g) #[] lb] w λe w'=>e=.returned (.int .i64 (fw p xs))∧BL w w':=by
 obtain⟨a,c,rfl,hc1,hc2⟩:=hv.shape;unfold maxLen at hc2;have HG:=U hg;clear hg;have he':∀(args:Array Value) (w:World),(callFunc g args).run prog w=.ok (.enter g args) w:=he;clear he;go_enter func317,ntmps317;go_wp2
 go_loopw [8] (λi wr=>∃k:Nat,k≤xs.length∧i=.int .i64 k∧BL w wr∧Hid (∀j,(hj:j<xs.length)→j<k→p xs[j]=false)) (λi _=>xs.length-(intOf i).toNat)
 case atStart=>exact⟨0,ae,rfl,aB _ _,λj _ hj=>ae⟩
 case round=>
  obtain⟨k,hk,rfl,hb,HN⟩:=hrel;by_cases hlt:k<xs.length
  ·obtain⟨b,o,rfl,c1,c2,c3⟩:=(hv.below hb).trip_at hlt;go_wp2_with fail;refine(HG.o _ xs[k] hb).mono ?_;rintro e w1 ⟨rfl,hb1⟩;cases hp:p xs[k]
   ·have HP:=U hp;clear hp;go_wp2;go_roundw
    case rel=>
     refine⟨k+1,ae,aY,Bl.call hb hb1,λj h1 hj=>?_⟩;by_cases e:j=k
     ·exact aFG
     ·exact HN.o j h1 ae
    case measure=>exact aFF
   ·have HF:Hid (fw p xs=k):=IY hlt hp HN.o;clear hp;go_wp2;go_ret;exact⟨gW HF.o.symm,Bl.call hb hb1⟩
  ·have HF:Hid (fw p xs=-1):=IZ (λj h1=>HN.o j h1 ae);go_wp2;go_ret;exact⟨gW HF.o.symm,hb⟩
theorem ar1(v:Value)(xs:List (Int×Int×Int))(g:Nat)(lb:Array Value)(p:(Int×Int×Int)→Bool)(w:World)(hv:aC Shape.trip w v xs)(he:Enters prog g)(hg:Ef g lb p w):
  Calls prog 287 #[v,.func (.func g) #[] lb] w λe w'=>e=.returned (.bool (xs.any p))∧BL w w':=by
 have HF:Hid (decide (0≤fw p xs)=xs.any p):=U (KP p xs);go_enter func287,ntmps287;go_wp2_with (go_at_call 317;refine(avw v xs g lb p _ hv he hg).mono ?_;rintro e w' ⟨rfl,hb⟩)
 go_ret;exact⟨bu N7,qI⟩
end Go.Proofs.YtfmckbjeofiegaaGreat
