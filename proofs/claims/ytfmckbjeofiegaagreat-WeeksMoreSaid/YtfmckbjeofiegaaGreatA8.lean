/- Part 8 of a proof. -/
import Derived.Test.YtfmckbjeofiegaaGreatA7
set_option maxRecDepth 100000
set_option maxHeartbeats 16000000
set_option linter.all false
open Go Go.RowKit Go.Proofs.Tryz
namespace Go.Proofs.YtfmckbjeofiegaaGreat
variable {a:Act}{K:Act→World→Prop}{ops:Array Oper}{Q:Exit→Act→World→Prop}{F:Fence}{rest:List Oper}{ys:List Sp}{B base base' c g i k lo o q:Nat}{Bf cf ln:Nat→Nat}{A Rd:Nat→Prop}{vf:Nat→Value}{P:Program}{α:Type}{e:TypeId}{u v v':Value}{W W' w' w0 w1:World}
def E9{β:Type}(J:(Nat→Prop)→β→World→Prop):Prop:=
 ∀own own' s A B,J own s A→aA own A B→(∀k,own' k→own k∨(A.heap.size≤k∧k<B.heap.size))→J own' s B
def ap4{α:Type}(S:List α→Prop)(J:(Nat→Prop)→List α→World→Prop)(e:Ending)(W':World):Prop:=(∃v,e=.returned v)∧∃own xs,S xs∧J own xs W'
def vI{α:Type}(P:Program)(n:Nat)(g:Nat)(lb:Array Value)(encs:α→Array Value)(Rd:Nat→Prop)(S:List α→Prop)(N:Nat)(w:World)(Fa:α→World→Prop:=λ_ _=>True):Prop:=
 ∀(l:Nat) (J:(Nat→Prop)→List α→World→Prop) (W:World),BL w W→E9 J→
  (∀own pre x W1,J own pre W1→pre.length<N→Fa x W1→YieldAt Fence.wide (n-1) P l (encs x) W1 λe W'=>
   e=.returned (.bool true)∧J own (pre++[x]) W'∧W1.heap.size≤W'.heap.size∧∀k,(Rd k∨own k)→W'.heap[k]?=W1.heap[k]?)→
  J (λ_=>False) [] W→
  CallsIn Fence.wide n P g (#[.func (.yield l) #[] #[]]++lb) W (ap4 S J)
def fG(B:Nat)(Rd own:Nat→Prop)(W W':World):Prop:=W.heap.size≤W'.heap.size∧∀k,(Rd k∨own k∨k=B∨k=B+1)→W'.heap[k]?=W.heap[k]?
theorem fG.refl(B:Nat)(Rd own:Nat→Prop)(W:World):fG B Rd own W W:=⟨aV _,λ_ _=>rfl⟩
theorem fG.trans{own:Nat→Prop}{X Y Z:World}(h:fG B Rd own X Y)(k:fG B Rd own Y Z):fG B Rd own X Z:=⟨fK h.1 k.1,λi hi=>(k.2 i hi).trans (h.2 i hi)⟩
theorem fG.of_below{own:Nat→Prop}{X Y:World}(h:BL X Y)(hl:∀k,(Rd k∨own k∨k=B∨k=B+1)→k<X.heap.size):fG B Rd own X Y:=⟨h.size,λk hk=>h.block k (hl k hk)⟩
theorem fG.setCell{own:Nat→Prop}(W:World)(p:Addr)(v:Value)(h:¬(Rd p.block∨own p.block∨p.block=B∨p.block=B+1)):fG B Rd own W (W.setCell p v):=
 ⟨ado,λk hk=>JD _ _ _ _ (λe=>h (by rw[←e];exact hk))⟩
theorem fG.grown{own:Nat→Prop}{row:Option Nat}(hg:W.grownBy W' row)(hl:∀k,(Rd k∨own k∨k=B∨k=B+1)→k<W.heap.size∧row≠some k):fG B Rd own W W':=
 ⟨hg.size,λk hk=>hg.block k (hl k hk).1 (λe=>(hl k hk).2 e.symm)⟩
def axT{α:Type}(B:Nat)(Rd own:Nat→Prop)(I:(Nat→Prop)→List α→World→Prop)(xs:List α)(W:World):Exit→Act→World→Prop
 |.normal,_,W'=>fG B Rd own W W'∧I own xs W'
 |_,_,_=>False
variable {n:Nat} {P:Program}
theorem ad3{g:Operand}{ps:Array Tmp}{assign body:Code}{w:World}
  {gf:Nat} {lb:Array Value} (hg:a.eval g=.func (.func gf) #[] lb) (eg:∀args w,(callFunc gf args).run P w=.ok (.enter gf args) w)
  {encs:α→Array Value} {Rd:Nat→Prop} {S:List α→Prop} {N:Nat} {Fa:α→World→Prop} (hseq:vI P (n-1) gf lb encs Rd S N w Fa)
  (qK:∀k,Rd k→k<w.heap.size) (hps:∀x,(encs x).size=ps.size)
  (I:(Nat→Prop)→List α→World→Prop)
  (hI:∀own own' s A B,I own s A→(∀k,own k→w.heap.size+2≤k∧k<A.heap.size)→w.heap.size≤A.heap.size→aA (λk=>own k∨k=w.heap.size∨k=w.heap.size+1) A B→
   (∀k,own' k→own k∨(A.heap.size≤k∧k<B.heap.size))→I own' s B)
  (h0:I (λ_=>False) [] w)
  (Ax:(Nat→Prop)→List α→α→Act→World→Prop) (hAx:∀own pre x a1 A B,Ax own pre x a1 A→(∀k,own k→w.heap.size+2≤k∧k<A.heap.size)→aA (λk=>k=w.heap.size+1) A B→w.heap.size+1<A.heap.size→B.heap.size=A.heap.size→Ax own pre x a1 B)
  (hassign:∀(l:Nat) (own:Nat→Prop) (pre:List α) (x:α) (W:World),I own pre W→(∀k,own k→w.heap.size+2≤k∧k<W.heap.size)→w.heap.size+2≤W.heap.size→pre.length<N→Fa x W→
   assign.wpIn (Fence.wide.inRound l) (n-1-1) P (Exit.then (λa1 W1=>fG w.heap.size Rd own W W1∧Ax own pre x a1 W1) (λ_ _ _=>False)) { tmps:=(ps.zip (encs x)).foldl (λt (p,v)=>t.setIfInBounds p v) a.tmps,defers:=[] } W)
  (hbody:∀(l:Nat) (own:Nat→Prop) (pre:List α) (x:α) (a1:Act) (W:World),Ax own pre x a1 W→(∀k,own k→w.heap.size+2≤k∧k<W.heap.size)→w.heap.size+2≤W.heap.size→pre.length<N→
   body.wpIn (Fence.wide.inRound l) (n-1-1) P (axT w.heap.size Rd own I (pre++[x]) W) a1 W)
  (hdone:∀(own:Nat→Prop) (xs:List α) (W:World),S xs→I own xs W→(∀k,own k→w.heap.size+2≤k∧k<W.heap.size)→w.heap.size+2≤W.heap.size→W.heap[w.heap.size]?=some (.deferred (some []))→
   Q .normal { a with defers:={ target:=.collected w.heap.size,args:=#[] }::a.defers } W) :
  (Code.rangeFunc g ps assign body).wpIn Fence.wide n P Q a w:=by
 refine wpIn_rangeFunc ?_;intro fn _;obtain⟨rec,hrec⟩:∃rec:LoopState→Loop,rec=λst=>{ state:=st,pending:=none,fn,tmps:=a.tmps,params:=ps,assign,body,defers:=w.heap.size }:=⟨_,rfl⟩;obtain⟨W1,hW1⟩:∃W1,(w.alloc (.deferred (some []))).alloc (.loop (rec .ready))=W1:=⟨_,rfl⟩;have hs1:W1.heap.size=w.heap.size+2:=by rw[←hW1];simp
 have hL1:W1.heap[w.heap.size+1]?=some (.loop (rec .ready)):=by
  rw[←hW1];have:=UK (w.alloc (.deferred (some []))) (.loop (rec .ready));rwa[fH]at this
 have hK1:W1.heap[w.heap.size]?=some (.deferred (some [])):=by
  rw[←hW1];exact(DJ _ _ _ aj).trans (UK w _)
 have hb1:BL w W1:=by
  rw[←hW1];exact((aB _ w).alloc (aV _) _).alloc aj _
 have hI1:I (λ_=>False) [] W1:=hI _ _ _ _ _ h0 (λk h=>h.elim) (aV _) (aA.of_below hb1) (λk h=>h.elim)
 refine⟨w.heap.size+1,[{ target:=.collected w.heap.size,args:=#[] }],W1,{ target:=.fn (.func gf) lb,args:=#[.func (.yield (w.heap.size+1)) #[] #[]] },W1,gf,
  #[.func (.yield (w.heap.size+1)) #[] #[]]++lb,W1,?_,?_,?_,?_,?_,?_⟩
 ·rw[←hW1,hrec];exact run_enterLoop_outer _ _ _ _ _
 ·simp only[resolve,hg];simp[go_sem]
 ·intro f' _;trivial
 ·simp[invoke,go_sem,eg]
 ·intro h;simp[Fence.wide]at h
 ·have KM:∀(own:Nat→Prop) (A B:World),aA own A B→(∀k,own k→w.heap.size+2≤k∧k<A.heap.size)→w.heap.size+2≤A.heap.size→∀k,k<w.heap.size+2→B.heap[k]?=A.heap[k]?:=
   λown A B ht ho hs k hk=>ht.block k ae (λx=>by have:=(ho k x).1;omega)
  refine(hseq (w.heap.size+1)
   (λown pre W=>I own pre W∧W.heap[w.heap.size+1]?=some (.loop (rec .ready))∧W.heap[w.heap.size]?=some (.deferred (some []))∧(∀k,own k→w.heap.size+2≤k∧k<W.heap.size)∧w.heap.size+2≤W.heap.size)
   W1 hb1 ?ab ?rd ⟨hI1,hL1,hK1,λk h=>h.elim,ae⟩).mono ?_
  case ab=>
   rintro own own' s A B ⟨hi,hl,hk,ho,hs⟩ ht hw;refine⟨hI _ _ _ _ _ hi ho ae (ht.mono λk h=>.inl h) hw,?_,?_,?_,fK hs ht.size⟩
   ·exact aFz
   ·exact aFy
   ·intro k hk';rcases hw k hk' with h|⟨h1,h2⟩
    ·have:=ho k h;exact⟨this.1,nH this.2 ht.size⟩
    ·exact⟨ae,h2⟩
  case rd=>
   rintro own pre x W ⟨hi,hl,hk,ho,hs⟩ hlen hfa;have hlt:w.heap.size+1<W.heap.size:=ae;have hy:=run_yield (P:=P) (args:=encs x) hl (by rw[hrec];exact hps x);rw[hrec]at hy;refine⟨fn,_,assign,body,hy,roundIn_of_wpIn trivial (SK (hassign _ own pre x W hi ho hs hlen hfa) ?_)⟩;rintro e1 a1 Wa hq1
   cases e1 with
   |ret=>exact hq1.elim
   |exit id=>exact hq1.elim
   |goto t=>exact hq1.elim
   |panic ch=>exact hq1.elim
   |outgrown=>exact hq1.elim
   |normal=>
   obtain⟨hka,hax⟩:=hq1;have hla:Wa.heap[w.heap.size+1]?=some (.loop (rec .ready)):=(hka.2 _ aj).trans hl;have hda:Wa.heap[w.heap.size]?=some (.deferred (some [])):=(hka.2 _ aj).trans hk;have hsa:=hka.1;refine⟨_,run_beginRound hla (by rw[hrec]),?_⟩;obtain⟨W2,hW2⟩:∃W2,Wa.putObj (w.heap.size+1) (.loop { rec .ready with state:=.busy })=W2:=⟨_,rfl⟩;have ht2:aA (λk=>k=w.heap.size+1) Wa W2:=by rw[←hW2];exact aA.putObj _ _ _
   have hs2:W2.heap.size=Wa.heap.size:=by rw[←hW2];simp
   have hl2:W2.heap[w.heap.size+1]?=some (.loop { rec .ready with state:=.busy }):=azd;have hk2:W2.heap[w.heap.size]?=some (.deferred (some [])):=azc;rw[hW2];refine SK (hbody _ own pre x a1 W2 (hAx _ _ _ _ _ _ hax (λk h=>KE) ht2 ae hs2) (λk h=>KE) ae hlen) ?_;rintro e a3 W3 hp
   cases e with
   |normal=>
    obtain⟨⟨hs3,hk3⟩,hi3⟩:=hp;have hl3:W3.heap[w.heap.size+1]?=some (.loop { rec .ready with state:=.busy }):=(hk3 _ aj).trans hl2;have hr:=acL (P:=P) none hl3;rw[hrec]at hr;refine⟨_,_,hr,rfl,⟨?_,?_,?_,?_,?_⟩,?_,?_⟩
    ·exact hI _ _ _ _ _ hi3 (λk h=>KE) ae ((aA.putObj _ _ _).mono λk h=>.inr (.inr h)) (λk h=>.inl h)
    ·have h5:=Qh (o:=.loop (rec .ready)) (nu.1 hl3).1;rw[hrec]at h5 ⊢;exact h5
    ·exact(tZ ae).trans ((hk3 _ aj).trans hk2)
    ·exact aFu
    ·exact bC
    ·exact bC
    ·intro k h
     have hne:k≠w.heap.size+1:=by
      rcases h with h|h
      ·exact aDj
      ·exact KE
     have hor:Rd k∨own k∨k=w.heap.size∨k=w.heap.size+1:=by
      rcases h with h|h
      ·exact .inl h
      ·exact .inr (.inl h)
     refine(tZ hne).trans ((hk3 k hor).trans (Eq.trans ?_ (hka.2 k hor)));rw[←hW2];exact tZ hne
   |ret=>exact hp.elim
   |exit id=>exact hp.elim
   |goto t=>exact hp.elim
   |panic ch=>exact hp.elim
   |outgrown=>exact hp.elim
  ·rintro e W2 ⟨⟨v,rfl⟩,own,xs,hS,hi,hl,hk,ho,hs⟩;refine⟨none,_,by have:=run_endLoop (P:=P) hl (by rw[hrec];simp);rw[hrec]at this;exact this,hdone own xs _ hS ?_ ?_ ?_ ?_⟩
   ·exact hI _ _ _ _ _ hi ho ae ((aA.putObj _ _ _).mono λk h=>.inr (.inr h)) (λk h=>.inl h)
   ·exact aFu
   ·exact bC
   ·exact(tZ ae).trans hk
theorem vI.later{n:Nat}{lb:Array Value}{encs:α→Array Value}{S:List α→Prop}{N:Nat}{w:World}{Fa:α→World→Prop}(h:vI P n g lb encs Rd S N w Fa)(hb:BL w w'):vI P n g lb encs Rd S N w' Fa:=
 λl J W hW hJ hY h0=>h l J W (Bl.call hb hW) hJ hY h0
theorem aB1{n:Nat}(w:World){o:Oper}
  (hg:o.guard=none) (s x:Operand) (t:TypeId) (hop:o.op=Op.call { callee:=Callee.builtin Builtin.append,args:=#[s,x],argTypes:=#[t,t] })
  (base:Nat) (e:TypeId) (i:TypeInfo) (z:Value) (size bytes:Nat) (h1:P.underlying t=some (.slice e)) (h2:P.info? e=some i) (h3:i.zero=some z) (h4:i.size=size) (h5:i.bytes=bytes) (h6:z.cells.size=size) (h7:0<size)
  (v:Value) (k:Nat) (xs:List Value) (hs:a.eval s=v) (hown:w.ownsRow base e size v k xs) (ad:Addr) (m c:Nat) (news:List Value) (hx:a.eval x=.slice (some ad) m c) (hn:news.length=m*size)
  (hc:∀j u,news[j]?=some u→w.cell? (ad.add j)=some u) (h1c:∀u∈news,u.oneCell'=true) (b1:k+m≤maxLen) (b2:(k+m)*bytes≤140737488355328) (b3:base≤w.heap.size)
  (hK:∀v' w',w'.ownsRow base e size v' (k+m) (xs++news)→w.grownBy w' v.ownBlock→nI w v v'→wpListIn F n P ops Q rest (a.put o.dst v') w') :
  wpListIn F n P ops Q (o::rest) a w:=by
 refine wpListIn_plain hg λK hK'=>?_;obtain⟨v',w',hrun,r1,r2,_,r4⟩:=al4 (P:=P) w base t o.type e i z size bytes h1 h2 h3 h4 h5 h6 h7 v k xs hown ad m c news hn hc h1c b1 b2 b3;unfold Oper.wpIn;refine⟨?_,?_⟩
 ·simp[Oper.about,hop,resolve,Target.leads,Ke]
 ·rw[Oper.semAt_plain F _ _ (by rw[hop];intro c hc';cases hc')];simp[execOp,hop,resolve,invoke,builtin,hs,hx,hrun,Result.andThen];exact hK' _ _ (hK v' w' r1 r2 r4)
theorem ZW{w:World}{o:Oper}{size n:Nat}{xs:List Value}(hown:w.ownsRow base e size v n xs)(ad:Addr)(m c:Nat)(news:List Value){i:TypeInfo}{z:Value}{bytes:Nat}(hi:P.info? e=some i)(hz:i.zero=some z)(hsize:i.size=size)(hby:i.bytes=bytes)
  (h:∀v' w',w'.ownsRow base e size v' (n+m) (xs++news)→w.grownBy w' v.ownBlock→nI w v v'→wpListIn F k P ops Q rest (a.put o.dst v') w')
  {s x:Operand} {t:TypeId} (ho:o.op=.call { callee:=.builtin .append,args:=#[s,x],argTypes:=#[t,t] }:=by rfl) (hgd:o.guard=none:=by rfl) (ht:P.underlying t=some (.slice e):=by kernel_rfl) (hzs:z.cells.size=size:=by rfl) (hsz:0<size:=by decide) (hs:a.eval s=v:=by rfl) (hx:a.eval x=.slice (some ad) m c:=by rfl) (hl:news.length=m*size:=by rfl) (hnews:∀j u,news[j]?=some u→w.cell? (ad.add j)=some u:=by exact AP _ _ _) (h1:∀u∈news,u.oneCell'=true:=by simp[Value.oneCell']) (h63:n+m≤maxLen:=by first|(simp[maxLen];omega)|(unfold maxLen;omega)) (hbytes:(n+m)*bytes≤140737488355328:=by first|omega|(simp;omega)) (hbase:base≤w.heap.size:=by first|omega|(simp;omega)):wpListIn F k P ops Q (o::rest) a w:=
 aB1 w hgd s x t ho base e i z size bytes ht hi hz hsize hby hzs hsz v n xs hs hown ad m c news hx hl hnews h1 h63 hbytes hbase h
def ap8{α:Type}(S:List α→Prop)(J Jx:(Nat→Prop)→List α→World→Prop)(e:Ending)(W':World):Prop:=(∃v,e=.returned v)∧∃own xs,(S xs∧J own xs W')∨Jx own xs W'
def ZJ{α:Type}(P:Program)(n:Nat)(g:Nat)(lb:Array Value)(encs:α→Array Value)(Rd:Nat→Prop)(S:List α→Prop)(N:Nat)(w:World)(Fo:(Nat→Prop)→α→World→Prop):Prop:=
 ∀(l:Nat) (J Jx:(Nat→Prop)→List α→World→Prop) (W:World),BL w W→E9 J→E9 Jx→
  (∀own pre x W1,J own pre W1→pre.length<N→(∃ys,S ys∧(pre++[x]) <+: ys)→Fo own x W1→YieldAt Fence.wide (n-1) P l (encs x) W1 λe W'=>
   (e=.returned (.bool true)∧J own (pre++[x]) W'∧W1.heap.size≤W'.heap.size∧∀k,(Rd k∨own k)→W'.heap[k]?=W1.heap[k]?)∨(e=.returned (.bool false)∧Jx own (pre++[x]) W'∧W1.heap.size≤W'.heap.size∧∀k,(Rd k∨own k)→W'.heap[k]?=W1.heap[k]?))→
  J (λ_=>False) [] W→
  CallsIn Fence.wide n P g (#[.func (.yield l) #[] #[]]++lb) W (ap8 S J Jx)
def su{α:Type}(P:Program)(n:Nat)(g:Nat)(lb:Array Value)(encs:α→Array Value)(Rd:Nat→Prop)(S:List α→Prop)(N:Nat)(w:World)(Fa:α→World→Prop:=λ_ _=>True):Prop:=ZJ P n g lb encs Rd S N w λ_=>Fa
def aAC{α:Type}(B:Nat)(Rd own:Nat→Prop)(I:(Nat→Prop)→List α→World→Prop)(Ix:Code→(Nat→Prop)→List α→World→Prop)(xs:List α)(W:World):Exit→Act→World→Prop
 |.normal,_,W'=>fG B Rd own W W'∧I own xs W'
 |.ret,_,W'=>fG B Rd own W W'∧Ix .ret own xs W'
 |.exit id,_,W'=>fG B Rd own W W'∧Ix (.exit id) own xs W'
 |_,_,_=>False
variable {n:Nat} {P:Program}
theorem E8{g:Operand}{ps:Array Tmp}{assign body:Code}{w:World}
  {gf:Nat} {lb:Array Value} (hg:a.eval g=.func (.func gf) #[] lb) (eg:∀args w,(callFunc gf args).run P w=.ok (.enter gf args) w)
  {encs:α→Array Value} {Rd:Nat→Prop} {S:List α→Prop} {N:Nat} {Fo:(Nat→Prop)→α→World→Prop} (hseq:ZJ P (n-1) gf lb encs Rd S N w Fo)
  (qK:∀k,Rd k→k<w.heap.size) (hps:∀x,(encs x).size=ps.size)
  (I:(Nat→Prop)→List α→World→Prop)
  (hI:∀own own' s A B,I own s A→(∀k,own k→w.heap.size+2≤k∧k<A.heap.size)→w.heap.size≤A.heap.size→aA (λk=>own k∨k=w.heap.size∨k=w.heap.size+1) A B→
   (∀k,own' k→own k∨(A.heap.size≤k∧k<B.heap.size))→I own' s B)
  (Ix:Code→(Nat→Prop)→List α→World→Prop)
  (hIx:∀c own own' s A B,Ix c own s A→(∀k,own k→w.heap.size+2≤k∧k<A.heap.size)→w.heap.size≤A.heap.size→aA (λk=>own k∨k=w.heap.size∨k=w.heap.size+1) A B→
   (∀k,own' k→own k∨(A.heap.size≤k∧k<B.heap.size))→Ix c own' s B)
  (h0:I (λ_=>False) [] w)
  (Ax:(Nat→Prop)→List α→α→Act→World→Prop) (hAx:∀own pre x a1 A B,Ax own pre x a1 A→(∀k,own k→w.heap.size+2≤k∧k<A.heap.size)→aA (λk=>k=w.heap.size+1) A B→w.heap.size+1<A.heap.size→B.heap.size=A.heap.size→Ax own pre x a1 B)
  (hassign:∀(l:Nat) (own:Nat→Prop) (pre:List α) (x:α) (W:World),I own pre W→(∀k,own k→w.heap.size+2≤k∧k<W.heap.size)→w.heap.size+2≤W.heap.size→pre.length<N→(∃ys,S ys∧(pre++[x]) <+: ys)→Fo own x W→(∀o,W.cell? ⟨w.heap.size+1,o,none⟩=none∧∀c t f,W.heap[w.heap.size]?≠some (.cells c t f)∧W.heap[w.heap.size+1]?≠some (.cells c t f))→
   assign.wpIn (Fence.wide.inRound l) (n-1-1) P (Exit.then (λa1 W1=>fG w.heap.size Rd own W W1∧Ax own pre x a1 W1) (λ_ _ _=>False)) { tmps:=(ps.zip (encs x)).foldl (λt (p,v)=>t.setIfInBounds p v) a.tmps,defers:=[] } W)
  (hbody:∀(l:Nat) (own:Nat→Prop) (pre:List α) (x:α) (a1:Act) (W:World),Ax own pre x a1 W→(∀k,own k→w.heap.size+2≤k∧k<W.heap.size)→w.heap.size+2≤W.heap.size→pre.length<N→(∃ys,S ys∧(pre++[x]) <+: ys)→
   body.wpIn (Fence.wide.inRound l) (n-1-1) P (aAC w.heap.size Rd own I Ix (pre++[x]) W) a1 W)
  (hdone:∀(own:Nat→Prop) (xs:List α) (W:World),S xs→I own xs W→(∀k,own k→w.heap.size+2≤k∧k<W.heap.size)→w.heap.size+2≤W.heap.size→W.heap[w.heap.size]?=some (.deferred (some []))→
   Q .normal { a with defers:={ target:=.collected w.heap.size,args:=#[] }::a.defers } W)
  (hstop:∀(c:Code) (own:Nat→Prop) (xs:List α) (W:World),Ix c own xs W→(∀k,own k→w.heap.size+2≤k∧k<W.heap.size)→w.heap.size+2≤W.heap.size→W.heap[w.heap.size]?=some (.deferred (some []))→
   c.wpIn Fence.wide n P Q { a with defers:={ target:=.collected w.heap.size,args:=#[] }::a.defers } W) :
  (Code.rangeFunc g ps assign body).wpIn Fence.wide n P Q a w:=by
 refine wpIn_rangeFunc ?_;intro fn _;obtain⟨rec,hrec⟩:∃rec:LoopState→Option Code→Loop,rec=λst pe=>{ state:=st,pending:=pe,fn,tmps:=a.tmps,params:=ps,assign,body,defers:=w.heap.size }:=⟨_,rfl⟩;obtain⟨W1,hW1⟩:∃W1,(w.alloc (.deferred (some []))).alloc (.loop (rec .ready none))=W1:=⟨_,rfl⟩;have hs1:W1.heap.size=w.heap.size+2:=by rw[←hW1];simp
 have hL1:W1.heap[w.heap.size+1]?=some (.loop (rec .ready none)):=by
  rw[←hW1];have:=UK (w.alloc (.deferred (some []))) (.loop (rec .ready none));rwa[fH]at this
 have hK1:W1.heap[w.heap.size]?=some (.deferred (some [])):=by
  rw[←hW1];exact(DJ _ _ _ aj).trans (UK w _)
 have hb1:BL w W1:=by
  rw[←hW1];exact((aB _ w).alloc (aV _) _).alloc aj _
 have hI1:I (λ_=>False) [] W1:=hI _ _ _ _ _ h0 (λk h=>h.elim) (aV _) (aA.of_below hb1) (λk h=>h.elim)
 refine⟨w.heap.size+1,[{ target:=.collected w.heap.size,args:=#[] }],W1,{ target:=.fn (.func gf) lb,args:=#[.func (.yield (w.heap.size+1)) #[] #[]] },W1,gf,
  #[.func (.yield (w.heap.size+1)) #[] #[]]++lb,W1,?_,?_,?_,?_,?_,?_⟩
 ·rw[←hW1,hrec];exact run_enterLoop_outer _ _ _ _ _
 ·simp only[resolve,hg];simp[go_sem]
 ·intro f' _;trivial
 ·simp[invoke,go_sem,eg]
 ·intro h;simp[Fence.wide]at h
 ·have KM:∀(own:Nat→Prop) (A B:World),aA own A B→(∀k,own k→w.heap.size+2≤k∧k<A.heap.size)→w.heap.size+2≤A.heap.size→∀k,k<w.heap.size+2→B.heap[k]?=A.heap[k]?:=
   λown A B ht ho hs k hk=>ht.block k ae (λx=>by have:=(ho k x).1;omega)
  refine(hseq (w.heap.size+1)
   (λown pre W=>I own pre W∧W.heap[w.heap.size+1]?=some (.loop (rec .ready none))∧W.heap[w.heap.size]?=some (.deferred (some []))∧(∀k,own k→w.heap.size+2≤k∧k<W.heap.size)∧w.heap.size+2≤W.heap.size)
   (λown pre W=>∃c,Ix c own pre W∧W.heap[w.heap.size+1]?=some (.loop (rec .done (some c)))∧W.heap[w.heap.size]?=some (.deferred (some []))∧(∀k,own k→w.heap.size+2≤k∧k<W.heap.size)∧w.heap.size+2≤W.heap.size)
   W1 hb1 ?ab ?abx ?rd ⟨hI1,hL1,hK1,λk h=>h.elim,ae⟩).mono ?_
  case ab=>
   rintro own own' s A B ⟨hi,hl,hk,ho,hs⟩ ht hw;refine⟨hI _ _ _ _ _ hi ho ae (ht.mono λk h=>.inl h) hw,?_,?_,?_,fK hs ht.size⟩
   ·exact aFz
   ·exact aFy
   ·intro k hk';rcases hw k hk' with h|⟨h1,h2⟩
    ·have:=ho k h;exact⟨this.1,nH this.2 ht.size⟩
    ·exact⟨ae,h2⟩
  case abx=>
   rintro own own' s A B ⟨c,hi,hl,hk,ho,hs⟩ ht hw;refine⟨c,hIx c _ _ _ _ _ hi ho ae (ht.mono λk h=>.inl h) hw,?_,?_,?_,fK hs ht.size⟩
   ·exact aFz
   ·exact aFy
   ·intro k hk';rcases hw k hk' with h|⟨h1,h2⟩
    ·have:=ho k h;exact⟨this.1,nH this.2 ht.size⟩
    ·exact⟨ae,h2⟩
  case rd=>
   rintro own pre x W ⟨hi,hl,hk,ho,hs⟩ hlen hpre hfa;have hlt:w.heap.size+1<W.heap.size:=ae;have hy:=run_yield (P:=P) (args:=encs x) hl (by rw[hrec];exact hps x);rw[hrec]at hy;refine⟨fn,_,assign,body,hy,roundIn_of_wpIn trivial (wpIn_mono (hassign _ own pre x W hi ho hs hlen hpre hfa (λo=>⟨(by unfold World.cell?;dsimp only;rw[hl]),λc t f=>⟨(by rw[hk];intro e;cases e),(by rw[hl];intro e;cases e)⟩⟩)) ?_)⟩;rintro e1 a1 Wa hq1
   cases e1 with
   |ret=>exact hq1.elim
   |exit id=>exact hq1.elim
   |goto t=>exact hq1.elim
   |panic ch=>exact hq1.elim
   |outgrown=>exact hq1.elim
   |normal=>
   obtain⟨hka,hax⟩:=hq1;have hla:Wa.heap[w.heap.size+1]?=some (.loop (rec .ready none)):=(hka.2 _ aj).trans hl;have hda:Wa.heap[w.heap.size]?=some (.deferred (some [])):=(hka.2 _ aj).trans hk;have hsa:=hka.1;refine⟨_,run_beginRound hla (by rw[hrec]),?_⟩;obtain⟨W2,hW2⟩:∃W2,Wa.putObj (w.heap.size+1) (.loop { rec .ready none with state:=.busy })=W2:=⟨_,rfl⟩;have ht2:aA (λk=>k=w.heap.size+1) Wa W2:=by rw[←hW2];exact aA.putObj _ _ _
   have hs2:W2.heap.size=Wa.heap.size:=by rw[←hW2];simp
   have hl2:W2.heap[w.heap.size+1]?=some (.loop { rec .ready none with state:=.busy }):=azd;have hk2:W2.heap[w.heap.size]?=some (.deferred (some [])):=azc;rw[hW2];refine SK (hbody _ own pre x a1 W2 (hAx _ _ _ _ _ _ hax (λk h=>KE) ht2 ae hs2) (λk h=>KE) ae hlen hpre) ?_;rintro e a3 W3 hp
   cases e with
   |normal=>
    obtain⟨⟨hs3,hk3⟩,hi3⟩:=hp;have hl3:W3.heap[w.heap.size+1]?=some (.loop { rec .ready none with state:=.busy }):=(hk3 _ aj).trans hl2;have hr:=acL (P:=P) none hl3;rw[hrec]at hr;refine⟨_,_,hr,.inl ⟨rfl,⟨?_,?_,?_,?_,?_⟩,?_,?_⟩⟩
    ·exact hI _ _ _ _ _ hi3 (λk h=>KE) ae ((aA.putObj _ _ _).mono λk h=>.inr (.inr h)) (λk h=>.inl h)
    ·have h5:=Qh (o:=.loop (rec .ready none)) (nu.1 hl3).1;rw[hrec]at h5 ⊢;exact h5
    ·exact(tZ ae).trans ((hk3 _ aj).trans hk2)
    ·exact aFu
    ·exact bC
    ·exact bC
    ·intro k h
     have hne:k≠w.heap.size+1:=by
      rcases h with h|h
      ·exact aDj
      ·exact KE
     have hor:Rd k∨own k∨k=w.heap.size∨k=w.heap.size+1:=by
      rcases h with h|h
      ·exact .inl h
      ·exact .inr (.inl h)
     refine(tZ hne).trans ((hk3 k hor).trans (Eq.trans ?_ (hka.2 k hor)));rw[←hW2];exact tZ hne
   |ret=>
    obtain⟨⟨hs3,hk3⟩,hi3⟩:=hp;have hl3:W3.heap[w.heap.size+1]?=some (.loop { rec .ready none with state:=.busy }):=(hk3 _ aj).trans hl2;have hr:=acL (P:=P) (some .ret) hl3;rw[hrec]at hr;refine⟨_,_,hr,.inr ⟨rfl,⟨.ret,?_,?_,?_,?_,?_⟩,?_,?_⟩⟩
    ·exact hIx _ _ _ _ _ _ hi3 (λk h=>KE) ae ((aA.putObj _ _ _).mono λk h=>.inr (.inr h)) (λk h=>.inl h)
    ·have h5:=Qh (o:=.loop (rec .done (some .ret))) (nu.1 hl3).1;rw[hrec]at h5 ⊢;exact h5
    ·exact(tZ ae).trans ((hk3 _ aj).trans hk2)
    ·exact aFu
    ·exact bC
    ·exact bC
    ·intro k h
     have hne:k≠w.heap.size+1:=by
      rcases h with h|h
      ·exact aDj
      ·exact KE
     have hor:Rd k∨own k∨k=w.heap.size∨k=w.heap.size+1:=by
      rcases h with h|h
      ·exact .inl h
      ·exact .inr (.inl h)
     refine(tZ hne).trans ((hk3 k hor).trans (Eq.trans ?_ (hka.2 k hor)));rw[←hW2];exact tZ hne
   |exit id=>
    obtain⟨⟨hs3,hk3⟩,hi3⟩:=hp;have hl3:W3.heap[w.heap.size+1]?=some (.loop { rec .ready none with state:=.busy }):=(hk3 _ aj).trans hl2;have hr:=acL (P:=P) (some (.exit id)) hl3;rw[hrec]at hr;refine⟨_,_,hr,.inr ⟨rfl,⟨(.exit id),?_,?_,?_,?_,?_⟩,?_,?_⟩⟩
    ·exact hIx _ _ _ _ _ _ hi3 (λk h=>KE) ae ((aA.putObj _ _ _).mono λk h=>.inr (.inr h)) (λk h=>.inl h)
    ·have h5:=Qh (o:=.loop (rec .done (some (.exit id)))) (nu.1 hl3).1;rw[hrec]at h5 ⊢;exact h5
    ·exact(tZ ae).trans ((hk3 _ aj).trans hk2)
    ·exact aFu
    ·exact bC
    ·exact bC
    ·intro k h
     have hne:k≠w.heap.size+1:=by
      rcases h with h|h
      ·exact aDj
      ·exact KE
     have hor:Rd k∨own k∨k=w.heap.size∨k=w.heap.size+1:=by
      rcases h with h|h
      ·exact .inl h
      ·exact .inr (.inl h)
     refine(tZ hne).trans ((hk3 k hor).trans (Eq.trans ?_ (hka.2 k hor)));rw[←hW2];exact tZ hne
   |goto t=>exact hp.elim
   |panic ch=>exact hp.elim
   |outgrown=>exact hp.elim
  ·rintro e W2 ⟨⟨v,rfl⟩,own,xs,⟨hS,hi,hl,hk,ho,hs⟩|⟨c,hi,hl,hk,ho,hs⟩⟩
   ·refine⟨none,_,by have:=run_endLoop (P:=P) hl (by rw[hrec];simp);rw[hrec]at this;exact this,hdone own xs _ hS ?_ ?_ ?_ ?_⟩
    ·exact hI _ _ _ _ _ hi ho ae ((aA.putObj _ _ _).mono λk h=>.inr (.inr h)) (λk h=>.inl h)
    ·exact aFu
    ·exact bC
    ·exact(tZ ae).trans hk
   ·refine⟨some c,_,by have:=run_endLoop (P:=P) hl (by rw[hrec];simp);rw[hrec]at this;exact this,hstop c own xs _ ?_ ?_ ?_ ?_⟩
    ·exact hIx _ _ _ _ _ _ hi ho ae ((aA.putObj _ _ _).mono λk h=>.inr (.inr h)) (λk h=>.inl h)
    ·exact aFu
    ·exact bC
    ·exact(tZ ae).trans hk
theorem su.later{n:Nat}{lb:Array Value}{encs:α→Array Value}{S:List α→Prop}{N:Nat}{w:World}{Fa:α→World→Prop}(h:su P n g lb encs Rd S N w Fa)(hb:BL w w'):su P n g lb encs Rd S N w' Fa:=
 λl J Jx W hW hJ hJx hY h0=>h l J Jx W (Bl.call hb hW) hJ hJx hY h0
theorem su.ownF{n:Nat}{lb:Array Value}{encs:α→Array Value}{S:List α→Prop}{N:Nat}{w:World}{Fa:α→World→Prop}(h:su P n g lb encs Rd S N w Fa):vI P n g lb encs Rd S N w λx W=>(∃ys,S ys∧x∈ys)∧Fa x W:=by
 intro l J W hW hJ hY h0;refine(h l J (λ_ _ _=>False) W hW hJ (λ_ _ _ _ _ h _ _=>h) (λown pre x W1 hj hl ⟨ys,h1,h2⟩ h3=>?_) h0).mono ?_
 ·obtain⟨fn,tmps,assign,body,hy,hR⟩:=hY own pre x W1 hj hl ⟨⟨ys,h1,h2.subset aj⟩,h3⟩;exact⟨fn,tmps,assign,body,hy,hR.mono (λe w' hr=>.inl hr)⟩
 ·rintro e W' ⟨hv,own,xs,h|h⟩
  ·exact⟨hv,own,xs,h⟩
  ·exact h.elim
theorem su.own{n:Nat}{lb:Array Value}{encs:α→Array Value}{S:List α→Prop}{N:Nat}{w:World}{Fa:α→World→Prop}(h:su P n g lb encs Rd S N w Fa):vI P n g lb encs Rd S N w:=
 λl J W hW hJ hY h0=>h.ownF l J W hW hJ (λown pre x W1 hj hl _=>hY own pre x W1 hj hl trivial) h0
section
attribute [local go_sem] Oper.semAt_some
def XI(W:World)(B t:Nat)(v:Value):Prop:=W.heap[B]?=some (.cells #[v] t (0,0))
def encS(x:Sp):Array Value:=#[.agg #[.int .i64 x.1,.int .i64 x.2]]
def OE(w0:World)(ob base:Nat)(own:Nat→Prop)(pre:List Sp)(W:World):Prop:=
 ∃v,XI W ob 54 v∧bG base W v pre∧(∀k,v.ownBlock=some k→¬own k)∧BL w0 W
theorem aag{ob:Nat}{own own':Nat→Prop}{pre:List Sp}{X Y:World}(h:OE w0 ob (B+2) own pre X)(h0:w0.heap.size≤B)(zo:ob<B)(ho:∀k,own k→B+2≤k∧k<X.heap.size)(M7:B≤X.heap.size)
  (ht:aA (λk=>own k∨k=B∨k=B+1) X Y) (hw:∀k,own' k→own k∨(X.heap.size≤k∧k<Y.heap.size)):OE w0 ob (B+2) own' pre Y:=by
 obtain⟨v,hv,hr,hd,hb⟩:=h;refine⟨v,?_,?_,?_,aA.below hb ht ae ?_⟩
 ·have hlt:=(nu.1 hv).1;refine(ht.block ob hlt ?_).trans hv;intro h;rcases h with h|h|h
  ·have:=ho ob h;omega
  ·omega
  ·omega
 ·refine fO hr ht λk hk h=>?_;have hlt:=hr.lt k hk;rcases h with h|h|h
  ·exact hd k hk h
  ·omega
  ·omega
 ·intro k hk hk';rcases hw k hk' with h|h
  ·exact hd k hk h
  ·have:=(hr.lt k hk).2;omega
 ·rintro k (h|h|h)
  ·exact KE
  ·omega
  ·omega
theorem arS{ob:Nat}{own:Nat→Prop}{pre:List Sp}{x:Sp}{o:Obj}(hv:XI W ob 54 v)(hr:bG (B+2) W v pre)
  (hd:∀k,v.ownBlock=some k→¬own k) (hb:BL w0 W) (h0:w0.heap.size≤ob) (zo:ob<B) (ho:∀k,own k→B+2≤k∧k<W.heap.size) (hB:B+2≤W.heap.size)
  (hown':w1.ownsRow (B+2) 41 2 v' (pre.length+1) (iN pre++[.int .i64 x.1,.int .i64 x.2])) (hg:(W.alloc o).grownBy w1 v.ownBlock) (hn:nI (W.alloc o) v v') :
  w1.cell? ⟨ob,0,none⟩=some v∧w1.frozen? ⟨ob,0,none⟩=false∧fG B (λk=>k<B∧k≠ob) own W (w1.setCell ⟨ob,0,none⟩ v')∧OE w0 ob (B+2) own (pre++[x]) (w1.setCell ⟨ob,0,none⟩ v'):=by
 have au0:ob<W.heap.size:=ae;have hrow:∀k,v.ownBlock=some k→B+2≤k∧k<W.heap.size:=hr.lt
 have abl:w1.heap[ob]?=some (.cells #[v] 54 (0,0)):=by
  refine(hg.block ob bC ?_).trans ((DJ W o ob au0).trans hv);intro e;have:=hrow ob e.symm;omega
 have hsz:W.heap.size+1≤w1.heap.size:=by have:=hg.size;simpa using this
 have hset:∀k,k≠ob→(w1.setCell ⟨ob,0,none⟩ v').heap[k]?=w1.heap[k]?:=λk hk=>JD _ _ _ _ hk;have aD0:(w1.setCell ⟨ob,0,none⟩ v').heap.size=w1.heap.size:=ado;refine⟨?_,?_,⟨ae,?_⟩,v',?_,?_,?_,?_⟩
 ·unfold World.cell?;dsimp only;rw[abl];rfl
 ·unfold World.frozen?;dsimp only;rw[abl];rfl
 ·intro k hk
  have hk1:k≠ob∧k<W.heap.size∧v.ownBlock≠some k:=by
   rcases hk with⟨h1,h2⟩|h|h|h
   ·exact⟨h2,ae,λe=>ajx⟩
   ·have:=ho k h;exact⟨ae,this.2,λe=>hd k e h⟩
   ·exact⟨ae,ae,λe=>ajx⟩
   ·exact⟨ae,ae,λe=>ajx⟩
  refine(hset k hk1.1).trans ((hg.block k bC ?_).trans (DJ W o k hk1.2.1));exact λe=>hk1.2.2 e.symm
 ·show(w1.setCell ⟨ob,0,none⟩ v').heap[ob]?=_
  simp[World.setCell,XG,abl]
 ·exact oU (wW hown' rfl) (by show ob<B+2;omega) _
 ·intro k hk hk';have hok:=ho k hk';rcases hn with e|⟨k',e,hle⟩
  ·rw[hk]at e;exact hd k e.symm hk'
  ·rw[hk]at e;cases e;simp at hle;omega
 ·refine hb.trans ⟨?_,?_,?_,ae,?_⟩
  ·exact hg.os
  ·exact hg.tape
  ·exact hg.output
  ·intro k hk;have hkW:k<W.heap.size:=nH hk hb.size;refine(hset k ae).trans ((hg.block k bC ?_).trans (DJ W o k hkW));intro e;have:=hrow k e.symm;omega
theorem aqD(g:Nat)(lb:Array Value)(L:List Sp)(N:Nat)(Rd:Nat→Prop)(w:World)(hN:N≤1000000000000)(hL:L.length≤N)(qK:∀k,Rd k→k<w.heap.size)(eg:∀args w,(callFunc g args).run prog w=.ok (.enter g args) w)
  (hs:vI prog (3-1) g lb encS Rd (λys=>ys=L) N w) :
  Calls prog 244 #[.slice none 0 0,.func (.func g) #[] lb] w λe w'=>∃v,e=.returned v∧bG w.heap.size w' v L∧BL w w':=by
 obtain⟨i0,hi,hz0,hz1,hz2⟩:=dY zu;refine(xW (n:=3)).1 ?_;refine zb func244 rfl trivial ?_ rfl;simp only[ntmps244,jb,dS,fU,Nat.reduceAdd,Nat.reduceSub,kv,kw,kC,kz,fE,gB];have hfn:∀k,Fence.wide.fn k:=λ_=>trivial;have hdp:¬(Fence.wide.depth.isSome=true):=kL;gi_wp2_with fail;have Nh:XI (w.alloc (.cells #[.slice none 0 0] 54)) w.heap.size 54 (.slice none 0 0):=CZ w _;have hB3:BL w (w.alloc (.cells #[.slice none 0 0] 54)):=Bl.alloc (aB _ _) _;have hs3:(w.alloc (.cells #[.slice none 0 0] 54)).heap.size=w.heap.size+1:=aj;have HS:=U (vI.later hs hB3);generalize hw3:w.alloc (.cells #[.slice none 0 0] 54)=w3;rw[hw3]at Nh hB3 hs3 HS;clear hw3 hs
 refine ad3 (gf:=g) (lb:=lb) rfl eg HS.o (λk hk=>by have:=qK k hk;omega) (λ_=>rfl) (λown pre=>OE w w.heap.size (w3.heap.size+2) own pre) ?hI ?h0
  (λown pre x a1 W=>(∃b,a1={ tmps:=#[.slice none 0 0,.func (.func g) #[] lb,.pointer (some ⟨w.heap.size,0,none⟩),undef,.slice none 0 0,.pointer (some ⟨b,0,none⟩),.func (.func g) #[] lb,.agg #[.int .i64 x.1,.int .i64 x.2],undef,undef,undef,undef,undef],defers:=[] }∧Bx b [x.1,x.2] W∧w3.heap.size+2≤b)∧OE w w.heap.size (w3.heap.size+2) own pre W) ?hAx ?assign ?body ?done
 case hI=>
  intro own own' s A B hi ho hs ht hw;exact aag hi hB3.size ae ho hs ht hw
 case h0=>exact⟨_,Nh,nJ _ _ _ _,(λk hk=>by cases hk),hB3⟩
 case hAx=>
  rintro own pre x a1 A B ⟨⟨b,rfl,hbx,hlb⟩,hcol⟩ ho ht hlt hsz;exact⟨⟨b,rfl,hbx.turns ht (λe=>by have e':b=w3.heap.size+1:=e;omega),hlb⟩,aag hcol hB3.size ae ho ae (ht.mono λk h=>.inr (.inr h)) (λk h=>.inl h)⟩
 case assign=>
  rintro ll own pre x W hi ho hs hlt _;unfold encS;gi_wp2;have hbl:BL W (W.alloc (.cells #[x.1,x.2] 41)):=Bl.alloc (aB _ _) _;refine⟨fG.of_below hbl λk hk=>?_,⟨W.heap.size,rfl,Bx.new rfl,hs⟩,aag hi hB3.size ae ho ae (aA.of_below hbl) (λk h=>.inl h)⟩;rcases hk with h|h|h|h
  ·exact aDj
  ·exact(ho k h).2
  ·omega
  ·omega
 case body=>
  rintro ll own pre x a1 W ⟨⟨b,rfl,hbx,hlb⟩,v,hv,hr,hd,hb⟩ ho hs hlt;have hcv:W.cell? ⟨w.heap.size,0,none⟩=some v:=aA1;have hx0:=hbx.cell 0;have hx1:=hbx.cell 1;simp only[aK,bB]at hx0 hx1;clear hbx;obtain⟨x1,x2⟩:=x;simp only at hx0 hx1;obtain⟨a5,c5,rfl⟩:=bv hr
  gi_wp2_with (gi_at_builtin;go_must (refine ZW (hr.alloc _) ⟨W.heap.size,0,none⟩ 1 1 [x1,x2] hi hz0 hz1 hz2 ?_);intro v' w4 hown' hgrow bY;obtain⟨a9,c9,rfl⟩:=bv hown';go_must (have HC:=arS (x:=(x1,x2)) hv hr hd hb ae ae ho ae hown' hgrow bY);obtain⟨hc4,hf4,hk4,hi4⟩:=HC)
  simp only[hs3]at hk4 hi4 ⊢;exact⟨⟨hk4.1,λk hk=>hk4.2 k (hk.imp (λh=>aDj) id)⟩,hi4⟩
 case done=>
  clear hs3;rintro own ls W rfl ⟨v,hv,hr,hd,hb⟩ ho hs hK;have hcv:W.cell? ⟨w.heap.size,0,none⟩=some v:=aA1;obtain⟨ao,co,rfl⟩:=bv hr;gi_wp2_with fail;refine⟨aj,.inl ⟨_,_,rfl,sO hK,?_⟩⟩;exact⟨_,Lc rfl _ _ _,_,rfl,kJ (alD hr _ hK rfl) (by have:=hB3.size;omega),hb.trans (AO (w:=w) (aV _) W _ _ _ hB3.size hK rfl rfl)⟩
theorem ahF(g:Nat)(lb:Array Value)(L:List Sp)(N:Nat)(Rd:Nat→Prop)(w:World)(hN:N≤1000000000000)(hL:L.length≤N)(qK:∀k,Rd k→k<w.heap.size)(eg:∀args w,(callFunc g args).run prog w=.ok (.enter g args) w)
  (hs:vI prog (3-1) g lb encS Rd (λys=>ys=L) N w) :
  Calls prog 179 #[.func (.func g) #[] lb] w λe w'=>∃v,e=.returned v∧bG w.heap.size w' v L∧BL w w':=by
 have HS:=U hs;clear hs;have HG:=U eg;clear eg;go_in;go_wp2_with fail;refine(aqD g lb L N Rd w hN hL qK HG.o HS.o).mono ?_;rintro e w1 ⟨v,rfl,hv,hb⟩;go_wp2;go_ret;exact⟨_,rfl,hv,hb⟩
theorem amV(g f:Nat)(lb:Array Value)(L:List Sp)(N:Nat)(Rd:Nat→Prop)(w:World)(hN:N≤1000000000000)(hL:L.length≤N)(qK:∀k,Rd k→k<w.heap.size)(eg:∀args w,(callFunc g args).run prog w=.ok (.enter g args) w)
  (hs:vI prog (3-1) g lb encS Rd (λys=>ys=L) N w) (hbd:∀s∈L,-100000000≤s.1∧s.1≤100000000) (ef:∀args w,(callFunc f args).run prog w=.ok (.enter f args) w) (hf:LV f) :
  Calls prog 120 #[.func (.func g) #[] lb,.func (.func f) #[] #[]] w λe w'=>∃v ys,e=.returned v∧ys.Perm L∧ys.Pairwise (λs t=>s.1≤t.1)∧bG w.heap.size w' v ys∧BL w w':=by
 have HS:=U hs;clear hs;have HG:=U eg;clear eg;have HF:=U ef;clear ef;go_in;go_wp2_with fail;refine(ahF g lb L N Rd w hN hL qK HG.o HS.o).mono ?_;rintro e w1 ⟨v,rfl,hv,hb⟩;have SO:=U (amU hv hbd ae HF.o hf);have hlt:=U hv.lt;obtain⟨a,c,rfl⟩:=bv hv;go_wp2_with fail;refine SO.o.mono ?_;rintro e w2 ⟨rfl,ys,p1,p2,hO,hT⟩;go_wp2;go_ret;exact⟨_,ys,rfl,p1,p2,hO,aA.below hb hT hb.size (λk hk=>(hlt.o k hk.symm).1)⟩
def gZ(Bv:Nat)(v:Value)(k:Nat):Prop:=k=Bv∨∃a n c,v=.slice (some a) n c∧0<n∧k=a.block
theorem anw(Bv n:Nat)(v:Value)(L:List Sp)(w:World)(hb:Bx Bv [v] w)(hv:aC Shape.span w v L):
  vI prog n 181 #[.pointer (some ⟨Bv,0,none⟩)] encS (gZ Bv v) (λys=>ys=L) L.length w:=by
 intro l J W hW hJ hY hj0;obtain⟨a,c,rfl,hc1,hc2⟩:=hv.shape;unfold maxLen at hc2;have cB:=U (hb.next hW);have Ci:=U (hv.below hW);clear hb hv;have HJ:=U hJ;have HY:=U hY;have hj0:=U hj0;clear hJ hY;have c0:W.cell? ⟨Bv,0,none⟩=some (.slice a L.length c):=cB.o.cell 0;refine xV func181 rfl trivial ?_ rfl;simp only[ntmps181,jb,dS,fU,Nat.reduceAdd,Nat.reduceSub,kv,kw,kC,kz,fE,gB];have hfn:∀k,Fence.wide.fn k:=(λ_=>trivial);have hdp:¬(Fence.wide.depth.isSome=true):=kL;gi_wp2
 gi_loopw [7] (λs7 wr=>∃k:Nat,k≤L.length∧s7=.int .i64 k∧Hid (J (λ_=>False) (L.take k) wr)∧Hid (∀k,gZ Bv (.slice a L.length c) k→wr.heap[k]?=W.heap[k]?)∧W.heap.size≤wr.heap.size) (λs7 _=>L.length-(intOf s7).toNat)
 case atStart=>exact⟨0,ae,rfl,hj0,U (λ_ _=>rfl),aV _⟩
 case round=>
  clear c0;obtain⟨k,hk,rfl,gL,HR,hsz⟩:=hrel;by_cases hlt:k<L.length
  ·obtain⟨b,o,rfl,d1,d2⟩:=Ci.o.span_at hlt;have e1:=HR.o b (.inr ⟨_,_,_,rfl,ae,rfl⟩);have d1:wr.cell? ⟨b,o+k*2,none⟩=some (.int .i64 L[k].1):=(iL (w:=W) (w':=wr) (a:=⟨b,o+k*2,none⟩) e1).trans d1;have d2:wr.cell? ⟨b,o+k*2+1,none⟩=some (.int .i64 L[k].2):=(iL (w:=W) (w':=wr) (a:=⟨b,o+k*2+1,none⟩) e1).trans d2;have HT:=U (jF hlt);obtain⟨fn,tmps,assign,body,hy,hR⟩:=HY.o (λ_=>False) (L.take k) L[k] (wr.alloc (.cells #[.int .i64 L[k].1,.int .i64 L[k].2] 41)) (HJ.o _ _ _ wr _ gL.o (aA.alloc _ _ _) (λ_ h=>.inl h)) Wx trivial;dsimp only[encS]at hy
   have jM:Hid (∀j,gZ Bv (.slice (some ⟨b,o,none⟩) L.length c) j→j<W.heap.size):=U (by
    rintro j (h|⟨a,n,c,e,_,h⟩)
    ·rw[h];exact cB.o.lt
    ·cases e;rw[h];obtain⟨b',o',cs,e',hb',_⟩:=Ci.o.at hlt;cases e'
     exact hb')
   generalize L[k]=x at *;obtain⟨x1,x2⟩:=x;simp only at d1 d2 hy HT;have i1:(0:Int)≤(k:Int):=ae;have i2:(k:Int)<L.length:=ae;clear e1;gi_wp2_with fail;refine hR.mono ?_;rintro e W3 ⟨rfl,hJ3,hs3,hk3⟩
   have HR3:Hid (∀k,gZ Bv (.slice (some ⟨b,o,none⟩) L.length c) k→W3.heap[k]?=W.heap[k]?):=U (λj hj=>by
    have h1:=jM.o j hj
    exact((hk3 j (.inl hj)).trans (DJ wr _ j ae)).trans (HR.o j hj))
   have gK:=U hJ3;simp only[fH]at hs3;clear hk3 hJ3 hR hy d1 d2;gi_wp2;go_roundw
   case rel=>exact⟨k+1,ae,aY,by rw[HT.o];exact gK,HR3,ae⟩
   case measure=>exact aFF
  ·have hkk:k=L.length:=ae;gi_wp2;go_end0;refine⟨⟨_,rfl⟩,λ_=>False,L,rfl,?_⟩;have:=gL.o;rw[hkk,jc]at this;exact this
end
section
attribute [local go_sem] Qv
structure Fe(base b3:Nat)(v3:Value)(ts:List Sp)(w:World)(k:Nat)(v:Value)(wr:World):Prop where
 row:bG b3 wr v (merge (ts.take k))
 all:bG base wr v3 ts
 below:Below w.heap.size w wr
 size:b3≤wr.heap.size
 apart:∀j,v3.ownBlock=some j→j<b3
theorem Fe.next{b3:Nat}{v3:Value}{ts:List Sp}{w wr wq w5:World}(h:Fe base b3 v3 ts w k v wr)(hk:k<ts.length)(hb:BL wr wq)(hO:bG b3 w5 v' (ik (merge (ts.take k)) ts[k]))
  (hT:aA (λb=>some b=v.ownBlock) wq w5) (hw:w.heap.size≤b3):Fe base b3 v3 ts w (k+1) v' w5:=by
 have hr:∀j,v.ownBlock=some j→b3≤j:=λj hj=>(h.row.lt j hj).1;refine⟨by rw[V7 hk];exact hO,?_,?_,?_,h.apart⟩
 ·refine fO (fq h.all hb) hT λj hj hh=>?_;have h2:=h.apart j hj;have:=hr j hh.symm;omega
 ·have hb2:=Bl.call h.below hb;exact aA.below hb2 hT hb2.size λj hj=>by have:=hr j hj.symm;omega
 ·have:=hb.size;have:=hT.size;have:=h.size;omega
theorem aAx:LV 318:=by
 refine⟨λx y=>xZ x.1.1 y.1.1,λx y=>by
  show xZ x.1.1 y.1.1<0↔x.1.1<y.1.1
  unfold xZ;split
  ·omega
  ·split<;>omega,?_⟩
 rintro⟨⟨x1,x2⟩,hx⟩ ⟨⟨y1,y2⟩,hy⟩ W;simp only;go_in;go_wp2_with (go_at_call 197;refine(compare _ _ _).mono ?_;rintro e w' ⟨rfl,rfl⟩)
 go_ret;exact⟨rfl,0,_,amm⟩
theorem aBy:LV 122:=by
 refine⟨CO,λx y=>by unfold CO;omega,?_⟩;rintro⟨⟨x1,x2⟩,hx⟩ ⟨⟨y1,y2⟩,hy⟩ W;unfold CO;simp only at hx hy ⊢;have hw:IntKind.i64.wrap (x1-y1)=x1-y1:=dE _ ae;go_in;go_wp2;go_ret;exact⟨rfl,0,_,amm⟩
theorem atq(g:Nat)(lb:Array Value)(L:List Sp)(N:Nat)(Rd:Nat→Prop)(w:World)(hN:N≤1000000000000)(hL:L.length≤N)(qK:∀k,Rd k→k<w.heap.size)(eg:∀args w,(callFunc g args).run prog w=.ok (.enter g args) w)
  (hs:vI prog (3-1) g lb encS Rd (λys=>ys=L) N w) (hbd:∀s∈L,-100000≤s.1∧s.1≤s.2∧s.2≤100000) :
  Calls prog 289 #[.func (.func g) #[] lb] w λe w'=>∃v,e=.returned v∧bG w.heap.size w' v (norm L)∧BL w w':=by
 obtain⟨i0,hi,hz0,hz1,hz2⟩:=dY zu;have SO:=U (amV g 318 lb L N Rd w hN hL qK eg hs (λs hs=>aju) (fo func318 aF rfl) aAx);clear hs eg;go_in;go_wp2_with fail;refine SO.o.mono ?_;rintro e w2 ⟨v3,ts,rfl,p1,p2,hO4,B2⟩;have hl:=p1.length_eq;have lH:=U (λs hs=>hbd s (p1.mem_iff.1 hs));have FIN:Hid (merge ts=norm L):=U ay7;have hnl:ts.length≤1000000000000:=ae;obtain⟨a3,c3,rfl⟩:=bv hO4;obtain⟨base,hbase⟩:∃b,b=w.heap.size:=⟨_,rfl⟩;rw[←hbase]at hO4;have hw3:w.heap.size≤w2.heap.size:=B2.size;have I0:Hid (Fe base w2.heap.size (.slice a3 ts.length c3) ts w 0 (.slice none 0 0) w2):=U ⟨yC (by simp[merge]),hO4,B2,aV _,λj hj=>(hO4.lt j hj).2⟩;clear p1 p2 hO4 hbd hl B2 hbase SO;go_wp2_with fail;obtain⟨b3,hb3⟩:∃b,b=w2.heap.size:=⟨_,rfl⟩;rw[←hb3]at I0 hw3;clear hb3
 go_loopw [4,12] (λso si wr=>∃k:Nat,k≤ts.length∧si=.int .i64 k∧Hid (Fe base b3 (.slice a3 ts.length c3) ts w k so wr)) (λ_ si _=>ts.length-(intOf si).toNat)
 case atStart=>exact⟨0,ae,rfl,I0⟩
 case round=>
  clear I0;obtain⟨k,hk,rfl,HI⟩:=hrel;obtain⟨a5,c5,rfl⟩:=bv HI.o.row;by_cases hkl:k<ts.length
  ·have BK:=lH.o ts[k] (eu hkl);obtain⟨q,cp,e,q1,q2,_,_,f1,f2,_⟩:=Bq HI.o.all hkl;simp only[qY]at e;obtain⟨rfl,_,rfl⟩:=e;have VK:(merge (ts.take k)).length≤2000000000000:=by have:=ace (ts.take k);rw[oF]at this;omega
   have tT:=HI.o.row;have MB:Hid (∀s∈merge (ts.take k),-200000≤s.2∧s.2≤200000):=U (acd (λs hs=>ajo));have mi:Hid (∀(v':Value) (wq w5:World),BL wr wq→bG b3 w5 v' (ik (merge (ts.take k)) ts[k])→aA (λb=>some b=(Value.slice a5 (merge (ts.take k)).length c5).ownBlock) wq w5→Fe base b3 (.slice (some ⟨q,0,none⟩) ts.length c3) ts w (k+1) v' w5):=U (λv' wq w5 h1 h3 h4=>HI.o.next hkl h1 h3 h4 hw3);have HR:=U tT;have hsr:=HI.o.size;clear HI tT;generalize merge (ts.take k)=M at *;generalize ts[k]=x at *;obtain⟨x1,x2⟩:=x;simp only at f1 f2 BK mi;have i1:(0:Int)≤(k:Int):=ae;have i2:(k:Int)<ts.length:=ae;rcases GI M with rfl|⟨o,t,rfl⟩
   ·have tL:Hid (ik [] (x1,x2)=[(x1,x2)]):=U rfl;go_wp2
    go_big_quiet (fail)
    have HO:=U (fq HR.o (Bl.drewN (Bl.alloc (aB wr.heap.size wr) (.cells #[x1,x2] 41)) nq));have iR:BL wr ((wr.alloc (.cells #[x1,x2] 41)).drewN nq):=Bl.drewN (Bl.alloc (aB _ _) _) nq;have XB:Bx wr.heap.size [x1,x2] ((wr.alloc (.cells #[x1,x2] 41)).drewN nq):=(Bx.new rfl).drewN nq;generalize hwq:World.drewN (wr.alloc (.cells #[x1,x2] 41)) nq=wq at *;have pz:=XB.cell 0;have pE:=XB.cell 1;simp only[aK,bB]at pz pE;have hbq:=XB.lt;have hbs:b3≤wq.heap.size:=Et;clear hwq XB;go_wp2_with (at_builtin;go_loud (refine iE (HO.o.alloc _) ⟨wq.heap.size,0,none⟩ 1 1 [x1,x2] hi hz0 hz1 hz2 ?_);intro v' w4 hown' hgrow bY)
    obtain⟨a9,c9,rfl⟩:=bv hown';have HN:=U (mi.o _ wq _ iR ayR ((aA.alloc _ wq _).trans (aA.grown hgrow (λk hk=>hk.symm))));clear hown' hgrow bY;go_roundw
    case rel=>exact⟨k+1,ae,aY,HN⟩
    case measure=>exact aFF
   ·have hl0:(o++[t]).length=o.length+1:=aj;obtain⟨p,cap,e,p1,p2,_,_,g1,g2,gf,_,_⟩:=Bq HR.o (k:=o.length) aj;simp only[qY]at e;obtain⟨rfl,_,rfl⟩:=e;have e0:(o++[t])[o.length]' aj=t:=aj;rw[e0]at g1 g2;have tL:=U (I6 o t (x1,x2));have htb:=MB.o t aj;obtain⟨t1,t2⟩:=t;simp only at g1 g2 tL htb;obtain⟨m,hm⟩:∃m,m=o.length:=⟨_,rfl⟩;have hm':o.length≤2000000000000:=ae;have hm2:m≤2000000000000:=ae;have tK:Hid ((o++[(t1,t2)]).length=m+1):=U (by rw[hl0,hm]);have Cb:=HR.o;rw[tK.o]at Cb;rw[←hm]at g1 g2;rw[tK.o];have BX:=mi.o;rw[tK.o]at BX;replace HR:=U Cb;replace mi:=U BX;have hmk:=U hm;clear hm hl0 Cb BX e0 MB;have m1:(0:Int)≤(m:Int):=ae;have m2:(m:Int)<(m:Int)+1:=ae;have w1:IntKind.i64.wrap (t2+1)=t2+1:=dE _ ae;by_cases hle:x1≤t2+1
    ·have t0:decide (x1≤t2+1)=true:=zJ;have mh:Hid (ik (o++[(t1,t2)]) (x1,x2)=(o++[(t1,t2)]).set m (t1,max t2 x2)):=U ame;clear hle;go_wp2
     go_big_quiet (fail)
     have HO:=U (fq HR.o (Bl.drewN (Bl.alloc (aB wr.heap.size wr) (.cells #[x1,x2] 41)) nq));have iR:BL wr ((wr.alloc (.cells #[x1,x2] 41)).drewN nq):=Bl.drewN (Bl.alloc (aB _ _) _) nq;have XB:Bx wr.heap.size [x1,x2] ((wr.alloc (.cells #[x1,x2] 41)).drewN nq):=(Bx.new rfl).drewN nq;have g3:=(iR.cell (p:=⟨p,m*2+1,none⟩) p2).trans g2;have gf2:=(iR.frozen (p:=⟨p,m*2+1,none⟩) p2).trans (gf _);have hpq:p<((wr.alloc (.cells #[x1,x2] 41)).drewN nq).heap.size:=Et;generalize hwq:World.drewN (wr.alloc (.cells #[x1,x2] 41)) nq=wq at *;have pz:=XB.cell 0;have pE:=XB.cell 1;simp only[aK,bB]at pz pE;have hbq:=XB.lt;have hbs:b3≤wq.heap.size:=Et;clear hwq XB;go_wp2;refine iQ [14] [14] 0 [] [(0,[0,1,2,3,4,5,6,7,8,9,10,11,12,13],14)] [] [] [(0,[_,_,_,_,_,_,_,_,_,_,_,_,_,_],14,_)] [] ?_;refine aH (iP ?_)
     (repeat(go_big_quiet_step (fail)));refine aH ?_
     intro n6;go_wp2_with fail
     all_goals
      refine bS _ rfl (jl ?_);go_wp2_with fail;have hlt2:m<(o++[(t1,t2)]).length:=by rw[tK.o];omega
      have e1:((o++[(t1,t2)])[m]'hlt2).1=t1:=by
       have:=hmk.o;subst this;simp
      have bL:∀z,bG b3 ((wq.drewN n6).setCell ⟨p,m*2+1,none⟩ (.int .i64 z)) (.slice (some ⟨p,0,none⟩) (m+1) c5) ((o++[(t1,t2)]).set m (t1,z)):=λz=>by
       have:=K6 (fq HO.o (Bl.drewN (aB _ _) n6)) hlt2 z;rw[e1]at this;exact this
      have T5:∀z,aA (λb=>some b=(Value.slice (some ⟨p,0,none⟩) (m+1) c5).ownBlock) wq ((wq.drewN n6).setCell ⟨p,m*2+1,none⟩ (.int .i64 z)):=λz=>(aA.drewN _ wq n6).trans (aA.setCell _ _ _ _ rfl);have HN:=U (λz (hz:z=max t2 x2)=>mi.o (.slice (some ⟨p,0,none⟩) (m+1) c5) _ _ iR amc (T5 z));clear bL T5;go_roundw
      case rel=>exact⟨k+1,ae,aY,U (HN.o _ ae)⟩
      case measure=>exact aFF
    ·have t0:decide (x1≤t2+1)=false:=zJ;have mh:Hid (ik (o++[(t1,t2)]) (x1,x2)=(o++[(t1,t2)])++[(x1,x2)]):=U amd;clear hle;go_wp2
     go_big_quiet (fail)
     have HO:=U (fq HR.o (Bl.drewN (Bl.alloc (aB wr.heap.size wr) (.cells #[x1,x2] 41)) nq));have iR:BL wr ((wr.alloc (.cells #[x1,x2] 41)).drewN nq):=Bl.drewN (Bl.alloc (aB _ _) _) nq;have XB:Bx wr.heap.size [x1,x2] ((wr.alloc (.cells #[x1,x2] 41)).drewN nq):=(Bx.new rfl).drewN nq;generalize hwq:World.drewN (wr.alloc (.cells #[x1,x2] 41)) nq=wq at *;have pz:=XB.cell 0;have pE:=XB.cell 1;simp only[aK,bB]at pz pE;have hbq:=XB.lt;have hbs:b3≤wq.heap.size:=Et;clear hwq XB;go_wp2_with (at_builtin;go_loud (refine iE (HO.o.alloc _) ⟨wq.heap.size,0,none⟩ 1 1 [x1,x2] hi hz0 hz1 hz2 ?_);intro v' w4 hown' hgrow bY)
     obtain⟨a9,c9,rfl⟩:=bv hown';have HN:=U (mi.o _ wq _ iR (by rw[mh.o];exact wW hown' rfl) ((aA.alloc _ wq _).trans (aA.grown hgrow (λk hk=>hk.symm))));clear hown' hgrow bY;go_roundw
     case rel=>exact⟨k+1,ae,aY,HN⟩
     case measure=>exact aFF
  ·have hkk:k=ts.length:=ae;go_wp2;go_ret;have HI2:=HI.o;refine⟨_,rfl,?_,HI2.below⟩;have:=HI2.row;rw[hkk,jc,FIN.o]at this ⊢;exact kJ (base:=b3) this ae
theorem anv(a:Option Addr)(m c:Nat)(w:World):Calls prog 121 #[.slice a m c] w λe w'=>e=.returned (.func (.func 181) #[] #[.pointer (some ⟨w.heap.size,0,none⟩)])∧BL w w'∧Bx w.heap.size [.slice a m c] w':=by
 go_in;go_wp2;go_ret;exact⟨rfl,Bl.alloc (aB _ _) _,Bx.new (vs:=[.slice a m c]) rfl⟩
theorem together(v:Value)(L:List Sp)(w:World)(hv:aC Shape.span w v L)(hL:L.length≤1000000000000)(hbd:∀s∈L,-100000≤s.1∧s.1≤s.2∧s.2≤100000):
  Calls prog 69 #[v] w λe w'=>∃v,e=.returned v∧bG w.heap.size w' v (norm L)∧BL w w':=by
 obtain⟨i0,hi,hz0,hz1,hz2⟩:=dY zu;obtain⟨a,c,rfl,hc1,hc2⟩:=hv.shape;have HV:=U hv;clear hv;go_in;go_wp2_with fail;refine(anv _ _ _ _).mono ?_;rintro e w1 ⟨rfl,hb1,hx1⟩
 have hlt:∀k,gZ w.heap.size (.slice a L.length c) k→k<w1.heap.size:=by
  rintro k (h|⟨a',n',c',e,h0,h⟩)
  ·rw[h];exact hx1.lt
  ·cases e;obtain⟨b,o,cs,e',hb',_⟩:=(HV.o.below hb1).at h0;cases e';rw[h];exact hb'
 have SO:=U (amV 181 122 #[.pointer (some ⟨w.heap.size,0,none⟩)] L L.length _ w1 hL (aV _) hlt (fo func181 aF rfl) (anw w.heap.size _ _ L w1 hx1 (HV.o.below hb1)) (λs hs=>aju) (fo func122 aF rfl) aBy);clear hlt;go_wp2_with fail;refine SO.o.mono ?_;rintro e w2 ⟨v3,ts,rfl,p1,p2,hO4,hb2⟩;have B2:=Bl.call hb1 hb2;have hO4:=kJ hO4 hb1.size;have hl:=p1.length_eq;have lH:=U (λs hs=>hbd s (p1.mem_iff.1 hs));have FIN:Hid (merge ts=norm L):=U ay7;have hnl:ts.length≤1000000000000:=ae;obtain⟨a3,c3,rfl⟩:=bv hO4;obtain⟨base,hbase⟩:∃b,b=w.heap.size:=⟨_,rfl⟩;rw[←hbase]at hO4;have hw3:w.heap.size≤w2.heap.size:=B2.size;have I0:Hid (Fe base w2.heap.size (.slice a3 ts.length c3) ts w 0 (.slice none 0 0) w2):=U ⟨yC (by simp[merge]),hO4,B2,aV _,λj hj=>(hO4.lt j hj).2⟩;clear p1 p2 hO4 hbd hl B2 hbase SO hb1 hb2 hx1;go_wp2_with fail;obtain⟨b3,hb3⟩:∃b,b=w2.heap.size:=⟨_,rfl⟩;rw[←hb3]at I0 hw3;clear hb3
 go_loopw [3,12] (λso si wr=>∃k:Nat,k≤ts.length∧si=.int .i64 k∧Hid (Fe base b3 (.slice a3 ts.length c3) ts w k so wr)) (λ_ si _=>ts.length-(intOf si).toNat)
 case atStart=>exact⟨0,ae,rfl,I0⟩
 case round=>
  clear I0;obtain⟨k,hk,rfl,HI⟩:=hrel;obtain⟨a5,c5,rfl⟩:=bv HI.o.row;by_cases hkl:k<ts.length
  ·have BK:=lH.o ts[k] (eu hkl);obtain⟨q,cp,e,q1,q2,_,_,f1,f2,_⟩:=Bq HI.o.all hkl;simp only[qY]at e;obtain⟨rfl,_,rfl⟩:=e;have VK:(merge (ts.take k)).length≤2000000000000:=by have:=ace (ts.take k);rw[oF]at this;omega
   have tT:=HI.o.row;have MB:Hid (∀s∈merge (ts.take k),-200000≤s.2∧s.2≤200000):=U (acd (λs hs=>ajo));have mi:Hid (∀(v':Value) (wq w5:World),BL wr wq→bG b3 w5 v' (ik (merge (ts.take k)) ts[k])→aA (λb=>some b=(Value.slice a5 (merge (ts.take k)).length c5).ownBlock) wq w5→Fe base b3 (.slice (some ⟨q,0,none⟩) ts.length c3) ts w (k+1) v' w5):=U (λv' wq w5 h1 h3 h4=>HI.o.next hkl h1 h3 h4 hw3);have HR:=U tT;have hsr:=HI.o.size;clear HI tT;generalize merge (ts.take k)=M at *;generalize ts[k]=x at *;obtain⟨x1,x2⟩:=x;simp only at f1 f2 BK mi;have i1:(0:Int)≤(k:Int):=ae;have i2:(k:Int)<ts.length:=ae;rcases GI M with rfl|⟨o,t,rfl⟩
   ·have tL:Hid (ik [] (x1,x2)=[(x1,x2)]):=U rfl;go_wp2
    go_big_quiet (fail)
    have HO:=U (fq HR.o (Bl.drewN (Bl.alloc (aB wr.heap.size wr) (.cells #[x1,x2] 41)) nq));have iR:BL wr ((wr.alloc (.cells #[x1,x2] 41)).drewN nq):=Bl.drewN (Bl.alloc (aB _ _) _) nq;have XB:Bx wr.heap.size [x1,x2] ((wr.alloc (.cells #[x1,x2] 41)).drewN nq):=(Bx.new rfl).drewN nq;generalize hwq:World.drewN (wr.alloc (.cells #[x1,x2] 41)) nq=wq at *;have pz:=XB.cell 0;have pE:=XB.cell 1;simp only[aK,bB]at pz pE;have hbq:=XB.lt;have hbs:b3≤wq.heap.size:=Et;clear hwq XB;go_wp2_with (at_builtin;go_loud (refine iE (HO.o.alloc _) ⟨wq.heap.size,0,none⟩ 1 1 [x1,x2] hi hz0 hz1 hz2 ?_);intro v' w4 hown' hgrow bY)
    obtain⟨a9,c9,rfl⟩:=bv hown';have HN:=U (mi.o _ wq _ iR ayR ((aA.alloc _ wq _).trans (aA.grown hgrow (λk hk=>hk.symm))));clear hown' hgrow bY;go_roundw
    case rel=>exact⟨k+1,ae,aY,HN⟩
    case measure=>exact aFF
   ·have hl0:(o++[t]).length=o.length+1:=aj;obtain⟨p,cap,e,p1,p2,_,_,g1,g2,gf,_,_⟩:=Bq HR.o (k:=o.length) aj;simp only[qY]at e;obtain⟨rfl,_,rfl⟩:=e;have e0:(o++[t])[o.length]' aj=t:=aj;rw[e0]at g1 g2;have tL:=U (I6 o t (x1,x2));have htb:=MB.o t aj;obtain⟨t1,t2⟩:=t;simp only at g1 g2 tL htb;obtain⟨m,hm⟩:∃m,m=o.length:=⟨_,rfl⟩;have hm':o.length≤2000000000000:=ae;have hm2:m≤2000000000000:=ae;have tK:Hid ((o++[(t1,t2)]).length=m+1):=U (by rw[hl0,hm]);have Cb:=HR.o;rw[tK.o]at Cb;rw[←hm]at g1 g2;rw[tK.o];have BX:=mi.o;rw[tK.o]at BX;replace HR:=U Cb;replace mi:=U BX;have hmk:=U hm;clear hm hl0 Cb BX e0 MB;have m1:(0:Int)≤(m:Int):=ae;have m2:(m:Int)<(m:Int)+1:=ae;have w1:IntKind.i64.wrap (t2+1)=t2+1:=dE _ ae;by_cases hle:x1≤t2+1
    ·have t0:decide (x1≤t2+1)=true:=zJ;have mh:Hid (ik (o++[(t1,t2)]) (x1,x2)=(o++[(t1,t2)]).set m (t1,max t2 x2)):=U ame;clear hle;go_wp2
     go_big_quiet (fail)
     have HO:=U (fq HR.o (Bl.drewN (Bl.alloc (aB wr.heap.size wr) (.cells #[x1,x2] 41)) nq));have iR:BL wr ((wr.alloc (.cells #[x1,x2] 41)).drewN nq):=Bl.drewN (Bl.alloc (aB _ _) _) nq;have XB:Bx wr.heap.size [x1,x2] ((wr.alloc (.cells #[x1,x2] 41)).drewN nq):=(Bx.new rfl).drewN nq;have g3:=(iR.cell (p:=⟨p,m*2+1,none⟩) p2).trans g2;have gf2:=(iR.frozen (p:=⟨p,m*2+1,none⟩) p2).trans (gf _);have hpq:p<((wr.alloc (.cells #[x1,x2] 41)).drewN nq).heap.size:=Et;generalize hwq:World.drewN (wr.alloc (.cells #[x1,x2] 41)) nq=wq at *;have pz:=XB.cell 0;have pE:=XB.cell 1;simp only[aK,bB]at pz pE;have hbq:=XB.lt;have hbs:b3≤wq.heap.size:=Et;clear hwq XB;go_wp2;refine iQ [14] [14] 0 [] [(0,[0,1,2,3,4,5,6,7,8,9,10,11,12,13],14)] [] [] [(0,[_,_,_,_,_,_,_,_,_,_,_,_,_,_],14,_)] [] ?_;refine aH (iP ?_)
     (repeat(go_big_quiet_step (fail)));refine aH ?_
     intro n6;go_wp2_with fail
     all_goals
      refine bS _ rfl (jl ?_);go_wp2_with fail;have hlt2:m<(o++[(t1,t2)]).length:=by rw[tK.o];omega
      have e1:((o++[(t1,t2)])[m]'hlt2).1=t1:=by
       have:=hmk.o;subst this;simp
      have bL:∀z,bG b3 ((wq.drewN n6).setCell ⟨p,m*2+1,none⟩ (.int .i64 z)) (.slice (some ⟨p,0,none⟩) (m+1) c5) ((o++[(t1,t2)]).set m (t1,z)):=λz=>by
       have:=K6 (fq HO.o (Bl.drewN (aB _ _) n6)) hlt2 z;rw[e1]at this;exact this
      have T5:∀z,aA (λb=>some b=(Value.slice (some ⟨p,0,none⟩) (m+1) c5).ownBlock) wq ((wq.drewN n6).setCell ⟨p,m*2+1,none⟩ (.int .i64 z)):=λz=>(aA.drewN _ wq n6).trans (aA.setCell _ _ _ _ rfl);have HN:=U (λz (hz:z=max t2 x2)=>mi.o (.slice (some ⟨p,0,none⟩) (m+1) c5) _ _ iR amc (T5 z));clear bL T5;go_roundw
      case rel=>exact⟨k+1,ae,aY,U (HN.o _ ae)⟩
      case measure=>exact aFF
    ·have t0:decide (x1≤t2+1)=false:=zJ;have mh:Hid (ik (o++[(t1,t2)]) (x1,x2)=(o++[(t1,t2)])++[(x1,x2)]):=U amd;clear hle;go_wp2
     go_big_quiet (fail)
     have HO:=U (fq HR.o (Bl.drewN (Bl.alloc (aB wr.heap.size wr) (.cells #[x1,x2] 41)) nq));have iR:BL wr ((wr.alloc (.cells #[x1,x2] 41)).drewN nq):=Bl.drewN (Bl.alloc (aB _ _) _) nq;have XB:Bx wr.heap.size [x1,x2] ((wr.alloc (.cells #[x1,x2] 41)).drewN nq):=(Bx.new rfl).drewN nq;generalize hwq:World.drewN (wr.alloc (.cells #[x1,x2] 41)) nq=wq at *;have pz:=XB.cell 0;have pE:=XB.cell 1;simp only[aK,bB]at pz pE;have hbq:=XB.lt;have hbs:b3≤wq.heap.size:=Et;clear hwq XB;go_wp2_with (at_builtin;go_loud (refine iE (HO.o.alloc _) ⟨wq.heap.size,0,none⟩ 1 1 [x1,x2] hi hz0 hz1 hz2 ?_);intro v' w4 hown' hgrow bY)
     obtain⟨a9,c9,rfl⟩:=bv hown';have HN:=U (mi.o _ wq _ iR (by rw[mh.o];exact wW hown' rfl) ((aA.alloc _ wq _).trans (aA.grown hgrow (λk hk=>hk.symm))));clear hown' hgrow bY;go_roundw
     case rel=>exact⟨k+1,ae,aY,HN⟩
     case measure=>exact aFF
  ·have hkk:k=ts.length:=ae;go_wp2;go_ret;have HI2:=HI.o;refine⟨_,rfl,?_,HI2.below⟩;have:=HI2.row;rw[hkk,jc,FIN.o]at this ⊢;exact kJ (base:=b3) this ae
end
section
attribute [local go_sem] Qv
attribute [local go_sem] Oper.semAt_some
def rA:Nat→List Sp→List Sp→List Sp
 |0,_,_=>[]
 |_,[],_=>[]
 |_,_,[]=>[]
 |f+1,x::xs,y::ys=>(if max x.1 y.1≤min x.2 y.2 then [(max x.1 y.1,min x.2 y.2)]else [])++(if x.2<y.2 then rA f xs (y::ys)else rA f (x::xs) ys)
theorem aam:∀(f g:Nat) (a b:List Sp),a.length+b.length≤f→a.length+b.length≤g→rA f a b=rA g a b
 |0,g,a,b,h1,h2=>by
  have ha:a=[]:=jo ae;subst ha;cases g<;>simp[rA]
 |f+1,0,a,b,h1,h2=>by
  have ha:a=[]:=jo ae;subst ha;simp[rA]
 |f+1,g+1,[],b,h1,h2=>by simp[rA]
 |f+1,g+1,x::xs,[],h1,h2=>by simp[rA]
 |f+1,g+1,x::xs,y::ys,h1,h2=>by
  simp only[dS]at h1 h2;unfold rA;rw[aam f g xs (y::ys) bC bC,aam f g (x::xs) ys bC bC]
def kU(a b:List Sp):List Sp:=rA (a.length+b.length) a b
theorem aaj(b:List Sp):kU [] b=[]:=by unfold kU;cases ([]:List Sp).length+b.length<;>simp[rA]
theorem aak(a:List Sp):kU a []=[]:=by
 unfold kU
 cases a with
 |nil=>simp[rA]
 |cons x xs=>simp[rA]
theorem aai(x y:Sp)(xs ys:List Sp):kU (x::xs) (y::ys)=(if max x.1 y.1≤min x.2 y.2 then [(max x.1 y.1,min x.2 y.2)]else [])++(if x.2<y.2 then kU xs (y::ys)else kU (x::xs) ys):=by
 unfold kU;rw[show(x::xs).length+(y::ys).length=(xs.length+(y::ys).length)+1 from bC];rw[rA];rw[aam (xs.length+(y::ys).length) ((x::xs).length+ys.length) (x::xs) ys bC aj]
theorem Qx:∀(n:Nat) {a b:List Sp},a.length+b.length≤n→bF a→bF b→∀v,Mem v (kU a b)↔Mem v a∧Mem v b
 |_,[],b,_,_,_,v=>by rw[aaj];simp[gU]
 |_,x::xs,[],_,_,_,v=>by rw[aak];simp[gU]
 |0,x::xs,y::ys,h,_,_,_=>by simp at h
 |n+1,x::xs,y::ys,h,ha,hb,v=>by
  simp only[dS]at h;obtain⟨a1,a2,a3⟩:=rH.1 ha;obtain⟨b1,b2,b3⟩:=rH.1 hb;have hA:∀u,Mem u xs→x.2+1<u:=λu ⟨s,hs,h1,_⟩=>by have:=a2 s hs;omega
  have hB:∀u,Mem u ys→y.2+1<u:=λu ⟨s,hs,h1,_⟩=>by have:=b2 s hs;omega
  rw[aai,NA]
  have hone:Mem v (if max x.1 y.1≤min x.2 y.2 then [(max x.1 y.1,min x.2 y.2)]else [])↔(x.1≤v∧v≤x.2)∧(y.1≤v∧v≤y.2):=by
   split
   ·rw[mem_cons];simp only[gU,Bp];omega
   ·simp only[gU,false_iff];omega
  rw[hone,mem_cons,mem_cons];by_cases hlt:x.2<y.2
  ·rw[aG hlt,Qx n bC a3 hb,mem_cons];constructor
   ·rintro(h|⟨h1,h2⟩)
    ·exact⟨.inl h.1,.inl h.2⟩
    ·exact⟨.inr h1,h2⟩
   ·rintro⟨h1|h1,h2⟩
    ·rcases h2 with h2|h2
     ·exact .inl ⟨h1,h2⟩
     ·have:=hB v h2;omega
    ·exact .inr ⟨h1,h2⟩
  ·rw[aD hlt,Qx n bC ha b3,mem_cons];constructor
   ·rintro(h|⟨h1,h2⟩)
    ·exact⟨.inl h.1,.inl h.2⟩
    ·exact⟨h1,.inr h2⟩
   ·rintro⟨h1,h2|h2⟩
    ·rcases h1 with h1|h1
     ·exact .inl ⟨h1,h2⟩
     ·have:=hA v h1;omega
    ·exact .inr ⟨h1,h2⟩
theorem aal:∀(n:Nat) {a b:List Sp},a.length+b.length≤n→bF a→bF b→bF (kU a b)∧∀s∈kU a b,∀x∈a.head?,∀y∈b.head?,x.1≤s.1∧y.1≤s.1
 |_,[],b,_,_,_=>by rw[aaj];exact⟨kH,by simp⟩
 |_,x::xs,[],_,_,_=>by rw[aak];exact⟨kH,by simp⟩
 |0,x::xs,y::ys,h,_,_=>by simp at h
 |n+1,x::xs,y::ys,h,ha,hb=>by
  simp only[dS]at h;obtain⟨a1,a2,a3⟩:=rH.1 ha;obtain⟨b1,b2,b3⟩:=rH.1 hb;rw[aai]
  have key:∀(R:List Sp),bF R→(∀s∈R,min x.2 y.2+1<s.1∧x.1≤s.1∧y.1≤s.1)→bF ((if max x.1 y.1≤min x.2 y.2 then [(max x.1 y.1,min x.2 y.2)]else [])++R)∧∀s∈(if max x.1 y.1≤min x.2 y.2 then [(max x.1 y.1,min x.2 y.2)]else [])++R,∀x'∈(x::xs).head?,∀y'∈(y::ys).head?,x'.1≤s.1∧y'.1≤s.1:=by
   intro R hR hb';split
   ·rename_i hle;refine⟨rH.2 ⟨hle,λt ht=>(hb' t ht).1,hR⟩,?_⟩;intro s hs x' hx' y' hy';simp only[List.head?_cons,Option.mem_def,Cy]at hx' hy';subst hx' hy';rcases mP.1 hs with rfl|hs
    ·exact ic
    ·exact(hb' s hs).2
   ·refine⟨hR,?_⟩;intro s hs x' hx' y' hy';simp only[List.head?_cons,Option.mem_def,Cy]at hx' hy';subst hx' hy';exact(hb' s hs).2
  by_cases hlt:x.2<y.2
  ·rw[aG hlt];obtain⟨i1,i2⟩:=aal n (a:=xs) (b:=y::ys) bC a3 hb;refine key _ i1 λs hs=>?_;have hm:=(Qx _ (aV _) a3 hb s.1).1 ⟨s,hs,oo _,i1.1 s hs⟩;obtain⟨⟨u,hu,h1,_⟩,_⟩:=hm;have h2:=a2 u hu
   have h3:y.1≤s.1:=by
    cases hx:xs with
    |nil=>rw[hx]at hu;simp at hu
    |cons z zs=>exact(i2 s hs z (by rw[hx];rfl) y rfl).2
   omega
  ·rw[aD hlt];obtain⟨i1,i2⟩:=aal n (a:=x::xs) (b:=ys) bC ha b3;refine key _ i1 λs hs=>?_;have hm:=(Qx _ (aV _) ha b3 s.1).1 ⟨s,hs,oo _,i1.1 s hs⟩;obtain⟨_,⟨u,hu,h1,_⟩⟩:=hm;have h2:=b2 u hu
   have h3:x.1≤s.1:=by
    cases hx:ys with
    |nil=>rw[hx]at hu;simp at hu
    |cons z zs=>exact(i2 s hs x rfl z (by rw[hx];rfl)).1
   omega
theorem ahI{a b:List Sp}(ha:bF a)(hb:bF b):kU a b=inter a b:=
 I9 (aal _ (aV _) ha hb).1 (Be ha hb) λv=>by rw[Qx _ (aV _) ha hb,Bd]
theorem uO{w:World}(h:K a w):iI (Exit.then K Q) .normal a w:=h
theorem arY(Ba Bb n:Nat)(va vb:Value)(A B:List Sp)(w:World)(ha:Bx Ba [va] w)(hb:Bx Bb [vb] w)(hA:aC Shape.span w va A)(hB:aC Shape.span w vb B)(bA:∀s∈A,-1000000≤s.1∧s.2≤1000000):
  vI prog n 290 #[.pointer (some ⟨Ba,0,none⟩),.pointer (some ⟨Bb,0,none⟩)] encS (λk=>gZ Ba va k∨gZ Bb vb k) (λzs=>zs=kU A B) (A.length+B.length) w:=by
 intro l J W hW hJ hY hj0;obtain⟨a,c,rfl,hc1,hc2⟩:=hA.shape;obtain⟨a',c',rfl,hd1,hd2⟩:=hB.shape;unfold maxLen at hc2 hd2;have DN:=U (ha.next hW);have cB:=U (hb.next hW);have FI:=U (hA.below hW);have HVB:=U (hB.below hW);clear ha hb hA hB;have HJ:=U hJ;have HY:=U hY;have hj0:=U hj0;clear hJ hY
 have jM:Hid (∀j,(gZ Ba (.slice a A.length c) j∨gZ Bb (.slice a' B.length c') j)→j<W.heap.size):=U (by
  rintro j ((h|⟨a,n,c,e,h0,h⟩)|(h|⟨a,n,c,e,h0,h⟩))
  ·rw[h];exact DN.o.lt
  ·cases e;obtain⟨b',o',cs,e',hb',_⟩:=FI.o.at h0;cases e';rw[h];exact hb'
  ·rw[h];exact cB.o.lt
  ·cases e;obtain⟨b',o',cs,e',hb',_⟩:=HVB.o.at h0;cases e'
   rw[h];exact hb')
 have c0:W.cell? ⟨Ba,0,none⟩=some (.slice a A.length c):=DN.o.cell 0;have c1:W.cell? ⟨Bb,0,none⟩=some (.slice a' B.length c'):=cB.o.cell 0;have hla:=DN.o.lt;have hlb:=cB.o.lt;refine xV func290 rfl trivial ?_ rfl;simp only[ntmps290,jb,dS,fU,Nat.reduceAdd,Nat.reduceSub,kv,kw,kC,kz,fE,gB];have hfn:∀k,Fence.wide.fn k:=(λ_=>trivial);have hdp:¬(Fence.wide.depth.isSome=true):=kL;gi_wp2
 gi_loopw [4,5] (λs4 s5 wr=>∃(i k:Nat) (pre:List Sp),i≤A.length∧k≤B.length∧s4=.int .i64 i∧s5=.int .i64 k∧pre.length≤i+k∧Hid (pre++kU (A.drop i) (B.drop k)=kU A B)∧Hid (J (λ_=>False) pre wr)∧Hid (∀k,(gZ Ba (.slice a A.length c) k∨gZ Bb (.slice a' B.length c') k)→wr.heap[k]?=W.heap[k]?)∧W.heap.size≤wr.heap.size) (λs4 s5 _=>A.length+B.length-(intOf s4).toNat-(intOf s5).toNat)
 case atStart=>exact⟨0,0,[],ae,ae,rfl,rfl,aj,U aj,hj0,U (λ_ _=>rfl),aV _⟩
 case round=>
  clear c0 c1;obtain⟨i,k,pre,hi,hk,rfl,rfl,hpl,HC,gL,HR,hsz⟩:=hrel;have c0:wr.cell? ⟨Ba,0,none⟩=some (.slice a A.length c):=(iL (w:=W) (w':=wr) (a:=⟨Ba,0,none⟩) (HR.o Ba (.inl (.inl rfl)))).trans (DN.o.cell 0);have c1:wr.cell? ⟨Bb,0,none⟩=some (.slice a' B.length c'):=(iL (w:=W) (w':=wr) (a:=⟨Bb,0,none⟩) (HR.o Bb (.inr (.inl rfl)))).trans (cB.o.cell 0);have aDJ:Ba<wr.heap.size:=ae;have aDK:Bb<wr.heap.size:=ae;by_cases hil:i<A.length
  ·by_cases hkl:k<B.length
   ·have hA:=FI.o;have hB:=HVB.o;obtain⟨b1,o1,rfl,d1,d2⟩:=hA.span_at hil;obtain⟨b2,o2,rfl,d3,d4⟩:=hB.span_at hkl;have e1:=HR.o b1 (.inl (.inr ⟨_,_,_,rfl,ae,rfl⟩));have e2:=HR.o b2 (.inr (.inr ⟨_,_,_,rfl,ae,rfl⟩));have l1:=jM.o b1 (.inl (.inr ⟨_,_,_,rfl,ae,rfl⟩));have l2:=jM.o b2 (.inr (.inr ⟨_,_,_,rfl,ae,rfl⟩));have d1:=(iL (w:=W) (w':=wr) (a:=⟨b1,o1+i*2,none⟩) e1).trans d1;have d2:=(iL (w:=W) (w':=wr) (a:=⟨b1,o1+i*2+1,none⟩) e1).trans d2;have d3:=(iL (w:=W) (w':=wr) (a:=⟨b2,o2+k*2,none⟩) e2).trans d3;have d4:=(iL (w:=W) (w':=wr) (a:=⟨b2,o2+k*2+1,none⟩) e2).trans d4;have HDA:=U (J4 hil);have LX:=U (J4 hkl);have G6:Hid (kU (A.drop i) (B.drop k)=(if max A[i].1 B[k].1≤min A[i].2 B[k].2 then [(max A[i].1 B[k].1,min A[i].2 B[k].2)]else [])++(if A[i].2<B[k].2 then kU (A.drop (i+1)) (B.drop k)else kU (A.drop i) (B.drop (k+1)))):=U (by rw[HDA.o,LX.o,aai]);have l1':b1<wr.heap.size:=ae;have l2':b2<wr.heap.size:=ae;clear e1 e2 hA hB;generalize A[i]=x at *;generalize B[k]=y at *;obtain⟨x1,x2⟩:=x;obtain⟨y1,y2⟩:=y;simp only at d1 d2 d3 d4 G6;have i1:(0:Int)≤(i:Int):=ae;have i2:(i:Int)<A.length:=ae;have k1:(0:Int)≤(k:Int):=ae;have k2:(k:Int)<B.length:=ae;gi_wp2
    refine rU [24] [23,24] 1 [] [(0,[0,1,2,3,4,5,6,7,8,9,10,11,12,13,14,15,16,17,18,19,20,21,22],23),(0,[],24)] [] [] [(0,[_,_,_,_,_,_,_,_,_,_,_,_,_,_,_,_,_,_,_,_,_,_,_],23,_),(0,[],24,_)] [] ?_;refine aH (ku ?_)
    (repeat(go_big_quiet_step (fail)));refine aH ?_
    intro w2 hb2;go_wp2;refine dZ (Bl.alloc hb2 _) (rW ?_);generalize hlo:max x1 y1=lo at *;generalize hhi:min x2 y2=hi' at *;go_wp2;refine bS _ rfl (jl ?_);refine uO ?_;have hsz2:=hb2.size;obtain⟨w5,EE⟩:∃w5,w5=w2.alloc (.cells #[lo,hi'] 41):=⟨_,rfl⟩;rw[←EE];have hb5:BL wr w5:=by rw[EE];exact Bl.alloc hb2 _
    have X5:Bx w2.heap.size [lo,hi'] w5:=by
     rw[EE];exact Bx.new rfl
    have pz:=X5.cell 0;have pE:=X5.cell 1;simp only[aK,bB]at pz pE;have hl5:=X5.lt;have hs5:=hb5.size;have xH:=U (HJ.o _ _ _ _ w5 gL.o (aA.of_below hb5) (λ_ h=>.inl h));have HLH:=U hlo;have HHH:=U hhi;have Tt:Hid (∀j,(gZ Ba (.slice (some ⟨b1,o1,none⟩) A.length c) j∨gZ Bb (.slice (some ⟨b2,o2,none⟩) B.length c') j)→w5.heap[j]?=wr.heap[j]?):=U (λj hj=>hb5.block j (by have:=jM.o j hj;omega));clear EE X5 hb2 hlo hhi hsz2;by_cases hle:lo≤hi'
    ·have t0:decide (lo≤hi')=true:=zJ;have Aa:Hid ((pre++[(lo,hi')])++(if x2<y2 then kU (A.drop (i+1)) (B.drop k)else kU (A.drop i) (B.drop (k+1)))=kU A B):=U (by rw[←HC.o,G6.o,aG hle,yS]);clear hle;obtain⟨fn,tmps,assign,body,hy,hR⟩:=HY.o (λ_=>False) pre (lo,hi') w5 xH.o ae trivial;dsimp only[encS]at hy;gi_wp2_with fail;refine hR.mono ?_;rintro e W3 ⟨rfl,hJ3,hs3,hk3⟩;have gK:=U hJ3;have tJ:Hid (∀j,(gZ Ba (.slice (some ⟨b1,o1,none⟩) A.length c) j∨gZ Bb (.slice (some ⟨b2,o2,none⟩) B.length c') j)→W3.heap[j]?=wr.heap[j]?):=U (λj hj=>(hk3 j (.inl hj)).trans (Tt.o j hj));clear hR hy hJ3 hk3 pz pE;have hz3:=hs3;have c0:W3.cell? ⟨Ba,0,none⟩=some (.slice (some ⟨b1,o1,none⟩) A.length c):=(iL (w:=wr) (w':=W3) (a:=⟨Ba,0,none⟩) (tJ.o Ba (.inl (.inl rfl)))).trans c0;have c1:W3.cell? ⟨Bb,0,none⟩=some (.slice (some ⟨b2,o2,none⟩) B.length c'):=(iL (w:=wr) (w':=W3) (a:=⟨Bb,0,none⟩) (tJ.o Bb (.inr (.inl rfl)))).trans c1;have d2:=(iL (w:=wr) (w':=W3) (a:=⟨b1,o1+i*2+1,none⟩) (tJ.o b1 (.inl (.inr ⟨_,_,_,rfl,ae,rfl⟩)))).trans d2;have d4:=(iL (w:=wr) (w':=W3) (a:=⟨b2,o2+k*2+1,none⟩) (tJ.o b2 (.inr (.inr ⟨_,_,_,rfl,ae,rfl⟩)))).trans d4;have awp:b1<W3.heap.size:=ae;have awr:b2<W3.heap.size:=ae
     have la3:Ba<W3.heap.size:=ae;have lb3:Bb<W3.heap.size:=ae;have HR3:Hid (∀k,(gZ Ba (.slice (some ⟨b1,o1,none⟩) A.length c) k∨gZ Bb (.slice (some ⟨b2,o2,none⟩) B.length c') k)→W3.heap[k]?=W.heap[k]?):=U (λj hj=>(tJ.o j hj).trans (HR.o j hj));by_cases hc:x2<y2
     ·have t4:decide (x2<y2)=true:=adz;have mg:=Aa.o;rw[aG hc]at mg;replace mg:=U mg;clear hc d1 d3;gi_wp2;refine rU [] [] 0 [] [] [0,1,2,3,4,5,6,7,8,9,10] [] [] [_,_,_,_,_,_,_,_,_,_,_] ?_;refine aH (qy ?_)
      (repeat(go_big_quiet_step (fail)));refine aH ?_
      intro nq;have yM:=U (HJ.o _ _ _ _ (W3.drewN nq) gK.o (aA.drewN _ _ _) (λ_ h=>.inl h));have HR4:Hid (∀k,(gZ Ba (.slice (some ⟨b1,o1,none⟩) A.length c) k∨gZ Bb (.slice (some ⟨b2,o2,none⟩) B.length c') k)→(W3.drewN nq).heap[k]?=W.heap[k]?):=HR3;refine uO ?_;gi_wp2;go_roundw
      case rel=>exact⟨i+1,k,_,ae,ae,aY,rfl,Xz,mg,yM,HR4,XE⟩
      case measure=>exact aFF
     ·have t4:decide (x2<y2)=false:=adz;have mg:=Aa.o;rw[aD hc]at mg;replace mg:=U mg;clear hc d1 d3;gi_wp2;refine rU [] [] 0 [] [] [0,1,2,3,4,5,6,7,8,9,10] [] [] [_,_,_,_,_,_,_,_,_,_,_] ?_;refine aH (qy ?_)
      (repeat(go_big_quiet_step (fail)));refine aH ?_
      intro nq;have yM:=U (HJ.o _ _ _ _ (W3.drewN nq) gK.o (aA.drewN _ _ _) (λ_ h=>.inl h));have HR4:Hid (∀k,(gZ Ba (.slice (some ⟨b1,o1,none⟩) A.length c) k∨gZ Bb (.slice (some ⟨b2,o2,none⟩) B.length c') k)→(W3.drewN nq).heap[k]?=W.heap[k]?):=HR3;refine uO ?_;gi_wp2;go_roundw
      case rel=>exact⟨i,k+1,_,ae,ae,rfl,aY,Xz,mg,yM,HR4,XE⟩
      case measure=>exact aFF
    ·have t0:decide (lo≤hi')=false:=zJ;have Aa:Hid (pre++(if x2<y2 then kU (A.drop (i+1)) (B.drop k)else kU (A.drop i) (B.drop (k+1)))=kU A B):=U (by rw[←HC.o,G6.o,aD hle,fE]);clear hle;have hs3:w5.heap.size≤w5.heap.size:=aV _;have gK:=xH;have tJ:=Tt;generalize w5=W3 at *;have hz3:=hs3;have c0:W3.cell? ⟨Ba,0,none⟩=some (.slice (some ⟨b1,o1,none⟩) A.length c):=(iL (w:=wr) (w':=W3) (a:=⟨Ba,0,none⟩) (tJ.o Ba (.inl (.inl rfl)))).trans c0;have c1:W3.cell? ⟨Bb,0,none⟩=some (.slice (some ⟨b2,o2,none⟩) B.length c'):=(iL (w:=wr) (w':=W3) (a:=⟨Bb,0,none⟩) (tJ.o Bb (.inr (.inl rfl)))).trans c1;have d2:=(iL (w:=wr) (w':=W3) (a:=⟨b1,o1+i*2+1,none⟩) (tJ.o b1 (.inl (.inr ⟨_,_,_,rfl,ae,rfl⟩)))).trans d2;have d4:=(iL (w:=wr) (w':=W3) (a:=⟨b2,o2+k*2+1,none⟩) (tJ.o b2 (.inr (.inr ⟨_,_,_,rfl,ae,rfl⟩)))).trans d4;have awp:b1<W3.heap.size:=ae;have awr:b2<W3.heap.size:=ae;have la3:Ba<W3.heap.size:=ae;have lb3:Bb<W3.heap.size:=ae;have HR3:Hid (∀k,(gZ Ba (.slice (some ⟨b1,o1,none⟩) A.length c) k∨gZ Bb (.slice (some ⟨b2,o2,none⟩) B.length c') k)→W3.heap[k]?=W.heap[k]?):=U (λj hj=>(tJ.o j hj).trans (HR.o j hj));by_cases hc:x2<y2
     ·have t4:decide (x2<y2)=true:=adz;have mg:=Aa.o;rw[aG hc]at mg;replace mg:=U mg;clear hc d1 d3;gi_wp2;refine rU [] [] 0 [] [] [0,1,2,3,4,5,6,7,8,9,10] [] [] [_,_,_,_,_,_,_,_,_,_,_] ?_;refine aH (qy ?_)
      (repeat(go_big_quiet_step (fail)));refine aH ?_
      intro nq;have yM:=U (HJ.o _ _ _ _ (W3.drewN nq) gK.o (aA.drewN _ _ _) (λ_ h=>.inl h));have HR4:Hid (∀k,(gZ Ba (.slice (some ⟨b1,o1,none⟩) A.length c) k∨gZ Bb (.slice (some ⟨b2,o2,none⟩) B.length c') k)→(W3.drewN nq).heap[k]?=W.heap[k]?):=HR3;refine uO ?_;gi_wp2;go_roundw
      case rel=>exact⟨i+1,k,_,ae,ae,aY,rfl,Xz,mg,yM,HR4,XE⟩
      case measure=>exact aFF
     ·have t4:decide (x2<y2)=false:=adz;have mg:=Aa.o;rw[aD hc]at mg;replace mg:=U mg;clear hc d1 d3;gi_wp2;refine rU [] [] 0 [] [] [0,1,2,3,4,5,6,7,8,9,10] [] [] [_,_,_,_,_,_,_,_,_,_,_] ?_;refine aH (qy ?_)
      (repeat(go_big_quiet_step (fail)));refine aH ?_
      intro nq;have yM:=U (HJ.o _ _ _ _ (W3.drewN nq) gK.o (aA.drewN _ _ _) (λ_ h=>.inl h));have HR4:Hid (∀k,(gZ Ba (.slice (some ⟨b1,o1,none⟩) A.length c) k∨gZ Bb (.slice (some ⟨b2,o2,none⟩) B.length c') k)→(W3.drewN nq).heap[k]?=W.heap[k]?):=HR3;refine uO ?_;gi_wp2;go_roundw
      case rel=>exact⟨i,k+1,_,ae,ae,rfl,aY,Xz,mg,yM,HR4,XE⟩
      case measure=>exact aFF
   ·have HF:Hid (pre=kU A B):=U (by rw[←HC.o,PS (by omega:B.length≤k),aak,ow]);gi_wp2;go_end0;exact⟨⟨_,rfl⟩,λ_=>False,pre,HF.o,gL.o⟩
  ·have HF:Hid (pre=kU A B):=U (by rw[←HC.o,PS (by omega:A.length≤i),aaj,ow]);gi_wp2;go_end0;exact⟨⟨_,rfl⟩,λ_=>False,pre,HF.o,gL.o⟩
end
structure gY(base B n:Nat)(L:Nat→List Sp)(vf:Nat→Value)(W:World):Prop where
 lt:B<W.heap.size
 cell:∀j,j<n→W.cell? ⟨B,j,none⟩=some (vf j)
 free:∀j,W.frozen? ⟨B,j,none⟩=false
 sp:∀j,j<n→bG base W (vf j) (L j)
 ne:∀j q,j<n→(vf j).ownBlock=some q→q≠B
 apart:∀i j q,i<n→j<n→i≠j→(vf i).ownBlock=some q→(vf j).ownBlock≠some q
section
variable {base B n:Nat} {L:Nat→List Sp} {vf:Nat→Value} {W W':World}
theorem gY.turns{own:Nat→Prop}(h:gY base B n L vf W)(t:aA own W W')(hB:¬own B)(hr:∀j q,j<n→(vf j).ownBlock=some q→¬own q):gY base B n L vf W':=
 ⟨nH h.lt t.size,λj hj=>(iL (t.block B h.lt hB)).trans (h.cell j hj),λj=>by
  have:=h.free j;unfold World.frozen? at this ⊢
  rw[t.block B h.lt hB];exact this,λj hj=>fO (h.sp j hj) t (λq hq=>hr j q hj hq),h.ne,h.apart⟩
theorem gY.below(h:gY base B n L vf W)(hb:BL W W'):gY base B n L vf W':=h.turns (aA.of_below (own:=λ_=>False) hb) (λx=>x) (λ_ _ _ _ x=>x)
theorem gY.same{L':Nat→List Sp}(h:gY base B n L vf W)(e:∀j,j<n→L' j=L j):gY base B n L' vf W:=⟨h.lt,h.cell,h.free,λj hj=>by rw[e j hj];exact h.sp j hj,h.ne,h.apart⟩
theorem gY.set{own:Nat→Prop}(h:gY base B n L vf W)(hi:i<n)(t:aA own W W')(hB:¬own B)(hr:∀j q,j<n→j≠i→(vf j).ownBlock=some q→¬own q)
  (ho:bG base W' v' ys) (hv:∀q,v'.ownBlock=some q→q≠B∧((vf i).ownBlock=some q∨W.heap.size≤q)) :
  gY base B n (λj=>if j=i then ys else L j) (λj=>if j=i then v' else vf j) (W'.setCell ⟨B,i,none⟩ v'):=by
 have hc:∀j,j<n→W'.cell? ⟨B,j,none⟩=some (vf j):=λj hj=>(iL (t.block B h.lt hB)).trans (h.cell j hj);refine⟨by simpa[World.setCell]using nH h.lt t.size,λj hj=>?_,λj=>?_,λj hj=>?_,λj q hj hq=>?_,λa b q ha hb hne h1 h2=>?_⟩
 ·by_cases e:j=i
  ·subst e;rw[UL _ _ _ (u:=vf j) (hc j hj)];simp
  ·rw[Qg _ _ _ _ (λk=>e akw),hc j hj];simp[e]
 ·rw[agJ];have:=h.free j;unfold World.frozen? at this ⊢;rw[t.block B h.lt hB];exact this
 ·have key:∀ {v:Value} {xs:List Sp},bG base W' v xs→(∀q,v.ownBlock=some q→q≠B)→bG base (W'.setCell ⟨B,i,none⟩ v') v xs:=λh1 h2=>
   fO h1 (aA.setCell (λk=>k=B) W' ⟨B,i,none⟩ v' rfl) (λq hq e=>h2 q hq e)
  by_cases e:j=i
  ·subst e;simp only[aG];exact key ho (λq hq=>(hv q hq).1)
  ·simp only[aD e];exact key (fO (h.sp j hj) t (λq hq=>hr j q hj e hq)) (λq hq=>h.ne j q hj hq)
 ·by_cases e:j=i
  ·subst e;simp only[aG]at hq;exact(hv q hq).1
  ·simp only[aD e]at hq;exact h.ne j q hj hq
 ·by_cases ea:a=i
  ·have eb:b≠i:=λe=>hne (ea.trans e.symm);simp only[aG ea]at h1;simp only[aD eb]at h2;rcases(hv q h1).2 with h3|h3
   ·exact h.apart i b q hi hb (Ay eb) h3 h2
   ·have:=((h.sp b hb).lt q h2).2;omega
  ·simp only[aD ea]at h1;by_cases eb:b=i
   ·simp only[aG eb]at h2;rcases(hv q h2).2 with h3|h3
    ·exact h.apart a i q ha hi ea h1 h3
    ·have:=((h.sp a ha).lt q h1).2;omega
   ·simp only[aD eb]at h2;exact h.apart a b q ha hb hne h1 h2
theorem gY.reads{xs:List (List Sp)}(h:gY base B n L vf W)(hx:xs.length=n)(he:∀j,(hj:j<xs.length)→xs[j]=L j)(hc:n≤c)(hm:c≤maxLen)(hAB:A B)(hA:∀j q,j<n→(vf j).ownBlock=some q→A q):
  Shape.span.list.list.reads A W [.slice (some ⟨B,0,none⟩) n c] xs:=by
 refine⟨_,c,by rw[hx],ae,hm,λ_=>⟨B,0,rfl,h.lt,hAB,λk hk=>⟨[vf k],?_,λj hj=>?_⟩⟩⟩
 ·rw[he k hk];exact xh mE (jT (h.sp k ae)) (λq hq=>hA k q ae hq)
 ·have h1:Shape.span.list.n=1:=rfl;have h0:j=0:=by have:j<1:=hj;omega
  subst h0;rw[h1,oJ,FZ,oI,h.cell k ae];rfl
end
structure fV(base:Nat)(W:World)(v:Value)(m:Nat)(ln:Nat→Nat)(L:Nat→Nat→List Sp)(Bf cf:Nat→Nat)(vf:Nat→Nat→Value):Prop where
 row:W.ownsRow base 33 1 v m ((List.range m).map λk=>.slice (some ⟨Bf k,0,none⟩) (ln k) (cf k))
 cap:∀k,k<m→ln k≤cf k∧cf k≤maxLen
 blk:∀k,k<m→base≤Bf k∧v.ownBlock≠some (Bf k)
 fam:∀k,k<m→gY base (Bf k) (ln k) (L k) (vf k) W
 ne:∀i j,i<m→j<m→i≠j→Bf i≠Bf j
 far:∀i j k q,i<m→k<m→j<ln i→(vf i j).ownBlock=some q→q≠Bf k
section
variable {base m:Nat} {W W':World} {v:Value} {ln:Nat→Nat} {L:Nat→Nat→List Sp} {Bf cf:Nat→Nat} {vf:Nat→Nat→Value}
theorem fV.below(h:fV base W v m ln L Bf cf vf)(hb:BL W W'):fV base W' v m ln L Bf cf vf:=
 ⟨gV h.row hb,h.cap,h.blk,λk hk=>(h.fam k hk).below hb,h.ne,h.far⟩
theorem fV.base_le(h:fV base W v m ln L Bf cf vf)(hb:base'≤base):fV base' W v m ln L Bf cf vf:=
 ⟨kJ h.row hb,h.cap,λk hk=>⟨fK hb (h.blk k hk).1,(h.blk k hk).2⟩,λk hk=>⟨(h.fam k hk).lt,(h.fam k hk).cell,(h.fam k hk).free,λj hj=>kJ ((h.fam k hk).sp j hj) hb,(h.fam k hk).ne,(h.fam k hk).apart⟩,h.ne,h.far⟩
theorem fV.reads{LL:List (List (List Sp))}(h:fV base W v m ln L Bf cf vf)(hm:LL.length=m)(hl:∀k,(hk:k<LL.length)→LL[k].length=ln k∧∀j,(hj:j<LL[k].length)→LL[k][j]=L k j)
  (hv:∀q,v.ownBlock=some q→A q) (hA:∀k,k<m→A (Bf k)∧∀j q,j<ln k→(vf k j).ownBlock=some q→A q):Shape.span.list.list.list.reads A W [v] LL:=by
 have hr:=h.row;rcases hr.2 with⟨rfl,h0⟩|⟨g,cap,cur,rfl,hg,hh,hn,hcm,hcs,ht⟩
 ·subst h0;obtain rfl:LL=[]:=jo hm;exact⟨none,0,rfl,aj,aj,aj⟩
 ·refine⟨_,cap,by rw[hm],ae,hcm,λ_=>⟨g,0,rfl,(hr.lt g rfl).2,hv g rfl,λk hk=>?_⟩⟩;have Nl:k<m:=ae;refine⟨[.slice (some ⟨Bf k,0,none⟩) (ln k) (cf k)],?_,λj hj=>?_⟩
  ·exact(h.fam k Nl).reads (hl k hk).1 (hl k hk).2 (h.cap k Nl).1 (h.cap k Nl).2 (hA k Nl).1 (hA k Nl).2
  ·have h1:Shape.span.list.list.n=1:=rfl;have h0:j=0:=by have:j<1:=hj;omega
   subst h0;have hc:=hr.cellAt k ae;rw[h1,oJ,FZ,oI,hc];simp[Nl]
theorem fV.lst{LL:List (List (List Sp))}(h:fV base W v m ln L Bf cf vf)(hm:LL.length=m)(hl:∀k,(hk:k<LL.length)→LL[k].length=ln k∧∀j,(hj:j<LL[k].length)→LL[k][j]=L k j):aC Shape.span.list.list W v LL:=
 h.reads hm hl (λ_ _=>trivial) (λ_ _=>⟨trivial,λ_ _ _ _=>trivial⟩)
theorem fV.snoc{n:Nat}{M:Nat→List Sp}{uf:Nat→Value}(h:fV base W v m ln L Bf cf vf)(hg:W.grownBy W' v.ownBlock)(hf:gY base B n M uf W)(hc:n≤c)(hcm:c≤maxLen)(hB:base≤B)(hvB:v.ownBlock≠some B)
  (hBn:∀k,k<m→B≠Bf k) (hu:∀j q,j<n→(uf j).ownBlock=some q→v.ownBlock≠some q∧∀k,k<m→q≠Bf k) (hvu:∀k j q,k<m→j<ln k→(vf k j).ownBlock=some q→q≠B∧v.ownBlock≠some q)
  (ho:W'.ownsRow base 33 1 v' (m+1) (((List.range m).map λk=>.slice (some ⟨Bf k,0,none⟩) (ln k) (cf k))++[.slice (some ⟨B,0,none⟩) n c])) (hn:nI W v v') :
  fV base W' v' (m+1) (λk=>if k=m then n else ln k) (λk=>if k=m then M else L k) (λk=>if k=m then B else Bf k) (λk=>if k=m then c else cf k) (λk=>if k=m then uf else vf k):=by
 have t:aA (λq=>v.ownBlock=some q) W W':=aA.grown hg (λq hq=>hq)
 have ED:∀q,q<W.heap.size→v.ownBlock≠some q→v'.ownBlock≠some q:=λq hq h1 h2=>by
  rcases hn with e|⟨k,e,hle⟩
  ·exact h1 (e ▸ h2)
  ·rw[h2]at e;cases e;omega
 have lt:∀k,k<m+1→k=m∨k<m:=λk hk=>ae;refine⟨?_,λk hk=>?_,λk hk=>?_,λk hk=>?_,λi j hi hj hne=>?_,λi j k q hi hk hj hq=>?_⟩
 ·have e:((List.range (m+1)).map λk=>Value.slice (some ⟨if k=m then B else Bf k,0,none⟩) (if k=m then n else ln k) (if k=m then c else cf k))=((List.range m).map λk=>Value.slice (some ⟨Bf k,0,none⟩) (ln k) (cf k))++[.slice (some ⟨B,0,none⟩) n c]:=by
   rw[jq,iT]
   congr 1
   ·refine J7 λk hk=>?_;have:k≠m:=by have:=fD.1 hk;omega
    simp[this]
   ·simp
  rw[e];exact ho
 ·rcases lt k hk with rfl|h1
  ·simp only[aG];exact⟨hc,hcm⟩
  ·simp only[aD (show k≠m from ae)];exact h.cap k h1
 ·rcases lt k hk with rfl|h1
  ·simp only[aG];exact⟨hB,ED B hf.lt hvB⟩
  ·simp only[aD (show k≠m from ae)];exact⟨(h.blk k h1).1,ED _ (h.fam k h1).lt (h.blk k h1).2⟩
 ·rcases lt k hk with rfl|h1
  ·simp only[aG];exact hf.turns t hvB (λj q hj hq=>(hu j q hj hq).1)
  ·simp only[aD (show k≠m from ae)];exact(h.fam k h1).turns t (h.blk k h1).2 (λj q hj hq=>(hvu k j q h1 hj hq).2)
 ·rcases lt i hi with rfl|h1<;>rcases lt j hj with rfl|h2
  ·exact absurd rfl hne
  ·simp only[aG,aD (show j≠i from ae)];exact hBn j h2
  ·simp only[aG,aD (show i≠j from ae)];exact Ay (hBn i h1)
  ·simp only[aD (show i≠m from ae),aD (show j≠m from ae)];exact h.ne i j h1 h2 hne
 ·rcases lt i hi with rfl|h1<;>rcases lt k hk with rfl|h2
  ·simp only[aG]at hj hq ⊢;exact hf.ne j q hj hq
  ·simp only[aG]at hj hq;simp only[aD (show k≠i from ae)];exact(hu j q hj hq).2 k h2
  ·simp only[aD (show i≠k from ae)]at hj hq;simp only[aG];exact(hvu i j q h1 hj hq).1
  ·simp only[aD (show i≠m from ae)]at hj hq;simp only[aD (show k≠m from ae)];exact h.far i j k q h1 h2 hj hq
end
structure zU(base:Nat)(W:World)(v:Value)(k:Nat)(L:Nat→List Sp)(vf:Nat→Value):Prop where
 row:W.ownsRow base 54 1 v k ((List.range k).map vf)
 sp:∀j,j<k→bG base W (vf j) (L j)
 ne:∀j q,j<k→(vf j).ownBlock=some q→v.ownBlock≠some q
 apart:∀i j q,i<k→j<k→i≠j→(vf i).ownBlock=some q→(vf j).ownBlock≠some q
theorem zU.nil{L:Nat→List Sp}:zU base W (.slice none 0 0) 0 L vf:=⟨nJ W base _ _,ae,ae,ae⟩
theorem zU.below{L:Nat→List Sp}(h:zU base W v k L vf)(hb:BL W W'):zU base W' v k L vf:=
 ⟨gV h.row hb,λj hj=>fq (h.sp j hj) hb,h.ne,h.apart⟩
theorem zU.snoc{L:Nat→List Sp}(h:zU base W v k L vf)(hl:∀q,v.ownBlock=some q→q<lo)(hl2:∀j q,j<k→(vf j).ownBlock=some q→q<lo)
  (hu:bG base W u (L k)) (hu2:∀q,u.ownBlock=some q→lo≤q) (hg:W.grownBy W' v.ownBlock) (ho:W'.ownsRow base 54 1 v' (k+1) (((List.range k).map vf)++[u])) (hn:nI W v v') :
  zU base W' v' (k+1) L (λj=>if j=k then u else vf j):=by
 have t:aA (λq=>v.ownBlock=some q) W W':=aA.grown hg (λq hq=>hq);have lt:∀j,j<k+1→j=k∨j<k:=λj hj=>ae
 have ED:∀q,q<W.heap.size→v.ownBlock≠some q→v'.ownBlock≠some q:=λq hq h1 h2=>by
  rcases hn with e|⟨b,e,hle⟩
  ·exact h1 (e ▸ h2)
  ·rw[h2]at e;cases e;omega
 have hun:∀q,u.ownBlock=some q→v.ownBlock≠some q:=λq hq e=>by have:=hu2 q hq;have:=hl q e;omega
 refine⟨?_,λj hj=>?_,λj q hj hq=>?_,λi j q hi hj hne h1 h2=>?_⟩
 ·have e:(List.range (k+1)).map (λj=>if j=k then u else vf j)=((List.range k).map vf)++[u]:=by
   rw[jq,iT]
   congr 1
   ·refine J7 λj hj=>?_;have:j≠k:=by have:=fD.1 hj;omega
    simp[this]
   ·simp
  rw[e];exact ho
 ·rcases lt j hj with rfl|h1
  ·simp only[aG];exact fO hu t hun
  ·simp only[aD (show j≠k from ae)];exact fO (h.sp j h1) t (λq hq=>h.ne j q h1 hq)
 ·rcases lt j hj with rfl|h1
  ·simp only[aG]at hq;exact ED q (hu.lt q hq).2 (hun q hq)
  ·simp only[aD (show j≠k from ae)]at hq;exact ED q ((h.sp j h1).lt q hq).2 (h.ne j q h1 hq)
 ·rcases lt i hi with rfl|hi1<;>rcases lt j hj with rfl|hj1
  ·exact hne rfl
  ·simp only[aG]at h1;simp only[aD (show j≠i from ae)]at h2;have:=hu2 q h1;have:=hl2 j q hj1 h2;omega
  ·simp only[aD (show i≠j from ae)]at h1;simp only[aG]at h2;have:=hu2 q h2;have:=hl2 i q hi1 h1;omega
  ·simp only[aD (show i≠k from ae)]at h1;simp only[aD (show j≠k from ae)]at h2;exact h.apart i j q hi1 hj1 hne h1 h2
theorem zU.fsp{L:Nat→List Sp}(h:zU base W v k L vf)(hk:0<k):
  ∃B c,v=.slice (some ⟨B,0,none⟩) k c∧base≤B∧k≤c∧c≤maxLen∧gY base B k L vf W:=by
 have hr:=h.row;rcases hr.2 with⟨rfl,h0⟩|⟨g,cap,cur,rfl,hg,hh,hn,hc,hs,ht⟩
 ·omega
 ·refine⟨g,cap,rfl,hg,hn,hc,(hr.lt g rfl).2,λj hj=>?_,λj=>hr.frozenAt j,h.sp,λj q hj hq=>?_,h.apart⟩
  ·rw[hr.cellAt j ae];simp[hj]
  ·exact λe=>h.ne j q hj hq (by rw[e];rfl)
structure Marks(lo:Nat)(ds:List Deferred)(W:World):Prop where
 mark:∀d∈ds,∃D,d={ target:=.collected D,args:=#[] }∧lo≤D∧W.heap[D]?=some (.deferred (some []))
 nd:ds.Pairwise λd e=>d.target≠e.target
theorem Marks.nil:Marks lo [] W:=⟨aj,aj⟩
theorem Marks.turns{ds:List Deferred}{own:Nat→Prop}(h:Marks lo ds W)(t:aA own W W')(ho:∀D,W.heap[D]?=some (.deferred (some []))→¬own D):Marks lo ds W':=
 ⟨λd hd=>by
  obtain⟨D,h1,h2,h3⟩:=h.mark d hd
  exact⟨D,h1,h2,(t.block D (nu.1 h3).1 (ho D h3)).trans h3⟩,h.nd⟩
theorem Marks.below{ds:List Deferred}(h:Marks lo ds W)(hb:BL W W'):Marks lo ds W':=h.turns (aA.of_below (own:=λ_=>False) hb) (λ_ _ x=>x)
theorem Marks.cons{D:Nat}{ds:List Deferred}(h:Marks lo ds W)(hD:W.heap.size≤D)(hlo:lo≤D)(h':Marks lo ds W')(hK:W'.heap[D]?=some (.deferred (some []))):Marks lo ({ target:=.collected D,args:=#[] }::ds) W':=
 ⟨λd hd=>by
  rcases mP.1 hd with rfl|hd
  ·exact⟨D,rfl,hlo,hK⟩
  ·exact h'.mark d hd,FX.2 ⟨λe he=>by
  obtain⟨E,rfl,_,h3⟩:=h.mark e he;have:=(nu.1 h3).1;intro x;simp only[ZK]at x
  omega,h'.nd⟩⟩
theorem KS{F:Fence}{n:Nat}{P:Program}{fn:Func}{tmps:Array Value}{R:Ending→World→Prop}{lo:Nat}:∀(ds:List Deferred) (W:World),Marks lo ds W→
  (∀W',aA (λq=>lo≤q∧W.heap[q]?=some (.deferred (some []))) W W'→W'.heap.size=W.heap.size→LeavesIn F n P fn tmps R [] .returning W')→LeavesInM F n P fn tmps R ds .returning W
 |[],W,_,h=>h W (aA.refl _ _) rfl
 |d::ds,W,hm,h=>by
  obtain⟨D,rfl,hlo,hK⟩:=hm.mark d aj;obtain⟨hp1,hp2⟩:=FX.1 hm.nd;refine⟨aj,.inl ⟨D,_,rfl,sO hK,?_⟩⟩;have t1:=aA.putObj W D (.deferred none);refine KS (lo:=lo) ds _ ⟨λe he=>?_,hp2⟩ λW' t hs=>h W' ?_ (by rw[hs];simp)
  ·obtain⟨E,e1,h2,h3⟩:=hm.mark e (by simp[he]);have hne:E≠D:=λx=>hp1 e he (by rw[e1,x]);exact⟨E,e1,h2,(t1.block E (nu.1 h3).1 hne).trans h3⟩
  ·refine(t1.mono λk hk=>?_).trans (t.mono λk hk=>?_)
   ·rw[hk];exact⟨hlo,hK⟩
   ·by_cases e:k=D
    ·rw[e];exact⟨hlo,hK⟩
    ·have hkl:k<W.heap.size:=by have:=(nu.1 hk.2).1;simpa using this
     exact⟨hk.1,(t1.block k hkl e).symm.trans hk.2⟩
theorem Wj{size n:Nat}{w:World}{xs:List Value}(h:w.ownsRow base e size v n xs)(q:Nat)(hq:v.ownBlock=some q):w.heap[q]?≠some (.deferred (some [])):=by
 rcases h.2 with⟨rfl,_⟩|⟨g,cap,cur,rfl,_,hg,_⟩
 ·cases hq
 ·cases hq;rw[hg];simp
theorem xX{w:World}(h:w.cell? ⟨q,o,none⟩=some v):w.heap[q]?≠some (.deferred (some [])):=by
 intro e;unfold World.cell? at h;dsimp only at h;rw[e]at h;simp at h
theorem gY.base_le{n:Nat}{L:Nat→List Sp}(h:gY base B n L vf W)(hb:base'≤base):gY base' B n L vf W:=⟨h.lt,h.cell,h.free,λj hj=>kJ (h.sp j hj) hb,h.ne,h.apart⟩
theorem gY.made{n:Nat}{L:Nat→List Sp}(h:W.ownsRow base 54 1 (.slice (some ⟨B,0,none⟩) n n) n (List.replicate n (.slice none 0 0)))(hL:∀j,j<n→L j=[]):gY base B n L (λ_=>.slice none 0 0) W:=by
 refine⟨(h.lt B rfl).2,λj hj=>?_,λj=>h.frozenAt j,λj hj=>yC (hL j hj),λj q _ hq=>MS,λi j q _ _ _ hq=>MS⟩;rw[h.cellAt j ae];simp[hj]
theorem fV.congr{m:Nat}{EJ:Nat→Nat}{L L':Nat→Nat→List Sp}{vf:Nat→Nat→Value}(h:fV base W v m ln L Bf cf vf)(h1:∀k,k<m→EJ k=ln k)(h2:∀k j,k<m→j<ln k→L' k j=L k j):fV base W v m EJ L' Bf cf vf:=by
 refine⟨?_,λk hk=>by rw[h1 k hk];exact h.cap k hk,h.blk,λk hk=>?_,h.ne,λi j k q hi hk hj hq=>h.far i j k q hi hk (by rw[h1 i hi]at hj;exact hj) hq⟩
 ·have e:(List.range m).map (λk=>Value.slice (some ⟨Bf k,0,none⟩) (EJ k) (cf k))=(List.range m).map λk=>Value.slice (some ⟨Bf k,0,none⟩) (ln k) (cf k):=J7 λk hk=>by rw[h1 k (fD.1 hk)]
  rw[e];exact h.row
 ·rw[h1 k hk];exact(h.fam k hk).same (λj hj=>h2 k j hk hj)
def yV(A:Nat→Prop)(v:Value)(m:Nat)(ln Bf:Nat→Nat)(vf:Nat→Nat→Value):Prop:=(∀q,v.ownBlock=some q→A q)∧(∀k,k<m→A (Bf k))∧∀k j q,k<m→j<ln k→(vf k j).ownBlock=some q→A q
theorem yV.mono{A':Nat→Prop}{m:Nat}{vf:Nat→Nat→Value}(h:yV A v m ln Bf vf)(k:∀q,A q→A' q):yV A' v m ln Bf vf:=⟨λq hq=>k q (h.1 q hq),λi hi=>k _ (h.2.1 i hi),λi j q hi hj hq=>k q (h.2.2 i j q hi hj hq)⟩
theorem fV.turns{m:Nat}{L:Nat→Nat→List Sp}{vf:Nat→Nat→Value}{own:Nat→Prop}(h:fV base W v m ln L Bf cf vf)(t:aA own W W')(hi:yV (λq=>¬own q) v m ln Bf vf):fV base W' v m ln L Bf cf vf:=
 ⟨fO h.row t hi.1,h.cap,h.blk,λk hk=>(h.fam k hk).turns t (hi.2.1 k hk) (λj q hj hq=>hi.2.2 k j q hk hj hq),h.ne,h.far⟩
theorem fV.marks{m:Nat}{L:Nat→Nat→List Sp}{vf:Nat→Nat→Value}(h:fV base W v m ln L Bf cf vf)(hp:∀k,k<m→0<ln k):yV (λq=>W.heap[q]?≠some (.deferred (some []))) v m ln Bf vf:=
 ⟨λq hq=>Wj h.row q hq,λk hk=>xX ((h.fam k hk).cell 0 (hp k hk)),λk j q hk hj hq=>Wj ((h.fam k hk).sp j hj) q hq⟩
theorem fV.ltAll{m:Nat}{L:Nat→Nat→List Sp}{vf:Nat→Nat→Value}(h:fV base W v m ln L Bf cf vf):yV (λq=>base≤q∧q<W.heap.size) v m ln Bf vf:=
 ⟨λq hq=>h.row.lt q hq,λk hk=>⟨(h.blk k hk).1,(h.fam k hk).lt⟩,λk j q hk hj hq=>((h.fam k hk).sp j hj).lt q hq⟩
theorem fV.one{n:Nat}{M:Nat→List Sp}{uf:Nat→Value}(hf:gY base B n M uf W)(hB:base≤B)(hc:n≤c)(hm:c≤maxLen):
  fV base (W.alloc (.cells #[.slice (some ⟨B,0,none⟩) n c] 33)) (.slice (some ⟨W.heap.size,0,none⟩) 1 1) 1 (λ_=>n) (λ_=>M) (λ_=>B) (λ_=>c) (λ_=>uf):=by
 have hlt:=hf.lt;refine⟨?_,λk _=>⟨hc,hm⟩,λk _=>⟨hB,λe=>?_⟩,λk _=>hf.below (Bl.alloc (aB _ _) _),λi j hi hj hne=>ae,λi j k q _ _ hj hq=>hf.ne j q hj hq⟩
 ·exact MI (base:=base) (size:=1) (e:=33) W #[.slice (some ⟨B,0,none⟩) n c] 1 ae qN rfl
 ·simp only[Value.ownBlock,Cy]at e;omega
theorem fV.at{m:Nat}{L:Nat→Nat→List Sp}{vf:Nat→Nat→Value}(h:fV base W v m ln L Bf cf vf)(hk:k<m):
  ∃g c,v=.slice (some ⟨g,0,none⟩) m c∧base≤g∧g<W.heap.size∧W.cell? ⟨g,k,none⟩=some (.slice (some ⟨Bf k,0,none⟩) (ln k) (cf k)):=by
 have hr:=h.row;rcases hr.2 with⟨rfl,h0⟩|⟨g,cap,cur,rfl,hg,hh,hn,hcm,hcs,ht⟩
 ·omega
 ·refine⟨g,cap,rfl,hg,(hr.lt g rfl).2,?_⟩;rw[hr.cellAt k ae];simp[hk]
theorem Dc(L:List Value)(fr:(Nat→Value)→List Value)(ds:List Deferred)(h:fr (λi=>L.getD i undef)=L):∃us:Nat→Value,Act.mk L.toArray ds=Act.mk (fr us).toArray ds:=⟨_,by rw[h]⟩
theorem yV.snoc{m n:Nat}{EJ:Nat→Nat}{vf:Nat→Nat→Value}{uf:Nat→Value}(h:yV A v m ln Bf vf)(hv:∀q,v'.ownBlock=some q→A q)(hB:A B)(hu:∀j q,j<n→(uf j).ownBlock=some q→A q)(hl:∀k,k<m→EJ k=ln k)(hn:EJ m=n):
  yV A v' (m+1) EJ (λk=>if k=m then B else Bf k) (λk=>if k=m then uf else vf k):=by
 refine⟨hv,λk hk=>?_,λk j q hk hj hq=>?_⟩
 ·by_cases e:k=m
  ·simp only[aG e];exact hB
  ·simp only[aD e];exact h.2.1 k ae
 ·by_cases e:k=m
  ·simp only[aG e]at hq;subst e;exact hu j q ae hq
  ·simp only[aD e]at hq;exact h.2.2 k j q ae (by rw[←hl k ae];exact hj) hq
theorem own_ne{w:World}{e e' size size' n n':Nat}{xs xs':List Value}(h:w.ownsRow base e size v n xs)(h':w.ownsRow base' e' size' v' n' xs')(hne:e≠e')(hq:v.ownBlock=some q):v'.ownBlock≠some q:=by
 intro hq';rcases h.2 with⟨rfl,_⟩|⟨g,cap,cur,rfl,_,hg,_⟩
 ·cases hq
 ·rcases h'.2 with⟨rfl,_⟩|⟨g',cap',cur',rfl,_,hg',_⟩
  ·cases hq'
  ·cases hq;cases hq';rw[hg]at hg';simp only[Cy,Obj.cells.injEq]at hg';exact hne hg'.2.1
theorem fV.rev{m:Nat}{L:Nat→Nat→List Sp}{vf:Nat→Nat→Value}(h:fV base W v m ln L Bf cf vf)(t:aA (λq=>v.ownBlock=some q) W W')
  (ho:W'.ownsRow base 33 1 v m ((List.range m).map λk=>Value.slice (some ⟨Bf k,0,none⟩) (ln k) (cf k)).reverse):fV base W' v m (λk=>ln (m-1-k)) (λk=>L (m-1-k)) (λk=>Bf (m-1-k)) (λk=>cf (m-1-k)) (λk=>vf (m-1-k)):=by
 refine⟨?_,λk hk=>h.cap _ ae,λk hk=>h.blk _ ae,λk hk=>?_,λi j hi hj hne=>h.ne _ _ ae ae ae,λi j k q hi hk hj hq=>h.far _ j _ q ae ae hj hq⟩
 ·have e:((List.range m).map λk=>Value.slice (some ⟨Bf k,0,none⟩) (ln k) (cf k)).reverse=(List.range m).map λk=>Value.slice (some ⟨Bf (m-1-k),0,none⟩) (ln (m-1-k)) (cf (m-1-k)):=by
   refine oD aj λi h1 h2=>?_;simp
  rw[←e];exact ho
 ·exact(h.fam _ ae).turns t (h.blk _ ae).2 (λj q hj hq=>own_ne ((h.fam _ ae).sp j hj) h.row aW hq)
theorem gY.vals{n:Nat}{L L':Nat→List Sp}{zO:Nat→Value}(h:gY base B n L vf W)(e:∀j,j<n→L' j=L j∧zO j=vf j):gY base B n L' zO W:=
 ⟨h.lt,λj hj=>by rw[(e j hj).2];exact h.cell j hj,h.free,λj hj=>by rw[(e j hj).1,(e j hj).2];exact h.sp j hj,λj q hj hq=>h.ne j q hj (by rw[←(e j hj).2];exact hq),λi j q hi hj hne h1 h2=>h.apart i j q hi hj hne (by rw[←(e i hi).2];exact h1) (by rw[←(e j hj).2];exact h2)⟩
theorem fV.set{m:Nat}{L:Nat→Nat→List Sp}{vf:Nat→Nat→Value}{n:Nat}(h:fV base W v m ln L Bf cf vf)(hk:k<m)(hn:n<ln k)(hb:BL W W')
  (ho:bG base W' v' ys) (hv:∀q,v'.ownBlock=some q→W.heap.size≤q) :
  fV base (W'.setCell ⟨Bf k,n,none⟩ v') v m ln (λa b=>if a=k∧b=n then ys else L a b) Bf cf (λa b=>if a=k∧b=n then v' else vf a b):=by
 have t:aA (λq=>q=Bf k) W' (W'.setCell ⟨Bf k,n,none⟩ v'):=aA.setCell _ _ _ _ rfl;have h':=h.below hb;refine⟨fO h'.row t (λq hq e=>(h.blk k hk).2 (e ▸ hq)),h.cap,h.blk,λa ha=>?_,h.ne,λi j a q hi ha hj hq=>?_⟩
 ·by_cases e:a=k
  ·subst e;refine((h.fam a ha).set hn (aA.of_below (own:=λ_=>False) hb) (λx=>x) (λ_ _ _ _ _ x=>x) ho (λq hq=>⟨λe=>?_,.inr (hv q hq)⟩)).vals (λj _=>aj);have:=hv q hq;have:=(h.fam a ha).lt;omega
  ·refine((h'.fam a ha).turns t (λe2=>h.ne a k ha hk e e2) (λj q hj hq e2=>h.far a j k q ha hk hj hq e2)).vals (λj _=>Sc)
 ·by_cases e:i=k∧j=n
  ·simp only[aG e]at hq;have:=hv q hq;have:=(h.fam a ha).lt;omega
  ·simp only[aD e]at hq;exact h.far i j a q hi ha hj hq
end Go.Proofs.YtfmckbjeofiegaaGreat
