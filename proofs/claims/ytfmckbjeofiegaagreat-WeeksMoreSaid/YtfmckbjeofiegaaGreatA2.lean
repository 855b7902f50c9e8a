/- Part 2 of a proof. -/
import Derived.Test.YtfmckbjeofiegaaGreatA0
set_option maxRecDepth 100000
set_option maxHeartbeats 16000000
set_option linter.all false
open Go Go.RowKit Go.Proofs.Tryz
namespace Go.Proofs.YtfmckbjeofiegaaGreat
variable {a:Act}{K:Act→World→Prop}{listed:Array Bool}{af:Array Edge}{ops:Array Oper}{Q:Exit→Act→World→Prop}{b h hi r:Int}{rest:List Oper}{cs:List Value}{B base c fuel i id j k o:Nat}{A:Nat→Prop}{oi:Oper}{P:Program}{α β:Type}{e ty:TypeId}{v:Value}{W W' w' w0 w1:World}{C:World→Prop}
theorem U{p:Prop}(h:p):Hid p:=h
theorem nm{α:Sort _}(t:α):∃ b,Hid (t=b):=⟨_,U rfl⟩
theorem bu{a b:Bool}(h:a=b):Ending.returned (.bool a)=.returned (.bool b):=by rw[h]
theorem gW{k:IntKind}{a:Int}(h:a=b):Ending.returned (.int k a)=.returned (.int k b):=by rw[h]
theorem Bl.alloc{a w:World}(h:BL a w)(o:Obj):BL a (w.alloc o):=Below.alloc h h.size o
theorem Bl.call{a w:World}(h:BL a w)(k:BL w w'):BL a w':=h.trans (k.mono h.size)
theorem Gg{w:World}{vs:Array Value}(h:vs[k]?=some v):(w.alloc (.cells vs e)).cell? ⟨w.heap.size,k,none⟩=some v:=by
 have:(w.alloc (.cells vs e)).heap[w.heap.size]?=some (.cells vs e):=CZ w _;unfold World.cell?;dsimp only;rw[this];exact h
def dw(n lo hi:Int):Bool:=decide (lo≤n)&&decide (n≤hi)
def vV(b l h r:Int):Bool:=decide (0≤b∧b≤8∧-200≤l∧l≤h∧h≤200∧h-l≤40∧0≤r∧r≤12000)
def Il(b l h r:Int):Int:=if vV b l h r=true then 0 else 30
theorem anF(a b c:Int)(w:World):
  Calls prog 232 #[a,b,c] w λe w'=>e=.returned (.bool (dw a b c))∧w=w':=by
 go_enter func232,ntmps232;go_wp2
 all_goals
  go_ret;exact⟨bu adr,rfl⟩
theorem aqB(a b:Int)(w:World)(ha:-1000000≤a∧a≤1000000)(hb:-1000000≤b∧b≤1000000):
  Calls prog 280 #[a,b] w λe w'=>e=.returned (.int .i64 (max (a-b) (b-a)))∧w=w':=by
 obtain⟨ha1,ha2⟩:=ha;obtain⟨hb1,hb2⟩:=hb;go_enter func280,ntmps280;go_wp2
 all_goals
  go_ret;exact⟨gW (by first|rfl|omega),rfl⟩
theorem aab(b l h r:Int)(w:World):
  Calls prog 166 #[.agg #[b,l,h,r]] w λe w'=>e=.returned (.int .i64 (Il b l h r))∧BL w w':=by
 go_enter func166,ntmps166;go_wp2_with (go_at_call 232;refine(anF _ _ _ _).mono ?_;rintro e w' ⟨rfl,rfl⟩)
 all_goals
  go_ret;refine⟨gW ?_,Bl.alloc (Bl.alloc (aB _ _) _) _⟩;simp[dw,wrap64]at *;unfold Il vV
  split<;>first|rfl|(exfalso;simp at *;omega)
theorem arq{l:Int}(hp:vV b l h r=true):Il b l h r=0:=by simp[Il,hp]
theorem arp{l:Int}(hp:vV b l h r=false):Il b l h r=30:=by simp[Il,hp]
theorem ahr(b l h r:Int)(w:World)(hp:Hid (vV b l h r=true)):
  Calls prog 166 #[.agg #[b,l,h,r]] w λe w'=>e=.returned (.int .i64 0)∧BL w w':=
 (aab b l h r w).mono λe w' ⟨h1,h2⟩=>⟨by rw[h1,arq hp.o],h2⟩
theorem art(b l h r:Int)(w:World)(hp:Hid (vV b l h r=false)):
  Calls prog 166 #[.agg #[b,l,h,r]] w λe w'=>e=.returned (.int .i64 30)∧BL w w':=
 (aab b l h r w).mono λe w' ⟨h1,h2⟩=>⟨by rw[h1,arp hp.o],h2⟩
theorem Bl.drewN{a w:World}(h:BL a w)(n:Nat):BL a (w.drewN n):=by
 exact⟨h.os,h.tape,h.output,h.size,h.block⟩
theorem Qv(w:World)(d:Nat)(os:Array Obj)(b o:Nat)(h:b<w.heap.size):(Sort.grow (redrawn w d) os).cell? ⟨b,o,none⟩=w.cell? ⟨b,o,none⟩:=
 (Ih w d os).cell (p:=⟨b,o,none⟩) h
theorem qz{w:World}{l:List Oper}(hm:P.follows .mixedOrders=true)(hB:Region.lexB .any l.toArray=true)
  (h:wpQuiet P l.toArray (λw'=>∃p:Regrown,w'=Sort.grow (redrawn w p.d) p.os) (λa'=>∀w',BL w w'→Q .normal a' w') l a):(Code.region id l.toArray true).wp P Q a w:=by
 refine wp_region_quiet_below hm hB ?_
 have e:(λa'=>∀w',(∃p:Regrown,w'=Sort.grow (redrawn w p.d) p.os)→Q .normal a' w')=(λa'=>∀w',BL w w'→Q .normal a' w'):=by
  funext a'
  apply propext;constructor
  ·intro h w' hb;exact h w' (regrown_of_below hb)
  ·rintro h w' ⟨p,rfl⟩;exact h _ (Ih _ _ _)
 rw[e];exact h
theorem Bl.setCell{a w:World}(h:BL a w){p:Addr}(hp:a.heap.size≤p.block)(u:Value):BL a (w.setCell p u):=Below.setCell h hp u
def xS(a b:Int):Int:=max (a-b) (b-a)
attribute [local go_sem] Qv
theorem ZZ{w:World}{vs:Array Value}(hb:Below (w.alloc (.cells vs e)).heap.size (w.alloc (.cells vs e)) W)(h:vs[o]?=some v):W.cell? ⟨w.heap.size,o,none⟩=some v:=
 (hb.cell (p:=⟨w.heap.size,o,none⟩) aj).trans (Gg h)
theorem asU : (prog.fieldsOf 41).toList = [{ name := "Lo", type := 3, offset := 0, embedded := false, tag := "", pkgPath := "", byteOffset := 0 }, { name := "Hi", type := 3, offset := 1, embedded := false, tag := "", pkgPath := "", byteOffset := 8 }] := aF
theorem auw:prog.stoodInHeld 41=false:=aF
theorem aAX:prog.underlying 41=some (.struct (prog.fieldsOf 41)):=aF
theorem asE(d:Nat)(a b c e:Int)(w:World):(Op.equalIn (d+2) 41 (.agg #[a,b]) (.agg #[c,e])).run prog w=.ok (a==c&&b==e) w:=by
 rw[al6 w (d+1) 41 _ _ aAX auw,asU];simp[Op.eqFields,go_sem];by_cases h1:a=c<;>by_cases h2:b=e<;>simp[h1,h2]
theorem aC6(op:BinOp)(x y:Operand)(xs ys:Array Value)(w:World):(eqGuard op 41 x y (.agg xs) (.agg ys)).run prog w=.ok () w:=al5 w op 41 x y xs ys aF
theorem aEQ(a b c e:Int)(w:World):(binOp .neq 41 (.agg #[a,b]) (.agg #[c,e])).run prog w=.ok (.bool (!(a==c&&b==e))) w:=by
 rw[al9,show(10000:Nat)=9998+2 from rfl,asE];rfl
theorem AL(a b:Int)(w:World)(ha:-1000000≤a∧a≤1000000)(hb:-1000000≤b∧b≤1000000):
  Calls prog 280 #[a,b] w λe w'=>e=.returned (.int .i64 (xS a b))∧w'=w:=
 (aqB a b w ha hb).mono λ_e _w' ⟨h1,h2⟩=>⟨h1,h2.symm⟩
attribute [local go_sem] Qv
theorem ax1{l:Int}:vV b l h r=true↔0≤b∧b≤8∧-200≤l∧l≤h∧h≤200∧h-l≤40∧0≤r∧r≤12000:=by simp[vV]
theorem gV{w:World}{e size:Nat}{n:Nat}{xs:List Value}(h:w.ownsRow base e size v n xs)(hb:BL w w'):w'.ownsRow base e size v n xs:=
 h.kept (row:=none) ⟨hb.os,hb.tape,hb.output,hb.size,λk hk _=>hb.block k hk⟩ (by cases hv:v.ownBlock<;>simp)
theorem jB{w:World}{e size:Nat}{n:Nat}{xs:List Value}(h:w.ownsRow base e size v n xs)(q:Nat):(w.drewN q).ownsRow base e size v n xs:=
 gV h (Bl.drewN (aB _ _) q)
theorem K8{w:World}(h:BL w0 w)(hB:w0.heap.size≤B)(hv:∀k,v.ownBlock=some k→B≤k)(hg:w.grownBy w' v.ownBlock):BL w0 w':=
 h.grown hg h.size (λk e=>fK hB (hv k e))
theorem anG(a b c:Int)(t:Bool)(w:World)(h:Hid (dw a b c=t)):Calls prog 232 #[a,b,c] w λe w'=>e=.returned (.bool t)∧w=w':=
 (anF a b c w).mono λe w' ⟨h1,h2⟩=>⟨NY,h2⟩
def CG(w:World)(v:Value)(xs:List (Int×Int×Int)):Prop:=
 ∃a c,v=.slice a xs.length c∧xs.length≤c∧c≤maxLen∧
  (0<xs.length→∃b o,a=some ⟨b,o,none⟩∧∀k,(hk:k<xs.length)→w.cell? ⟨b,o+k*3,none⟩=some (.int .i64 xs[k].1)∧w.cell? ⟨b,o+k*3+1,none⟩=some (.int .i64 xs[k].2.1)∧w.cell? ⟨b,o+k*3+2,none⟩=some (.int .i64 xs[k].2.2))
theorem CG.nil{w:World}:CG w (.slice none 0 0) []:=⟨none,0,rfl,aj,aj,aj⟩
theorem CG.cellAt{w:World}{a:Option Addr}{n:Nat}{xs:List (Int×Int×Int)}(h:CG w (.slice a n c) xs)(hk:k<xs.length):
  ∃b o,a=some ⟨b,o,none⟩∧w.cell? ⟨b,o+k*3,none⟩=some (.int .i64 xs[k].1)∧w.cell? ⟨b,o+k*3+1,none⟩=some (.int .i64 xs[k].2.1)∧w.cell? ⟨b,o+k*3+2,none⟩=some (.int .i64 xs[k].2.2):=by
 obtain⟨a',c',e,h1,h2,h3⟩:=h;cases e;obtain⟨b,o,rfl,h4⟩:=h3 ae;exact⟨b,o,rfl,h4 k hk⟩
def flat3(xs:List (Int×Int×Int)):List Value:=xs.flatMap λx=>[x.1,x.2.1,x.2.2]
theorem aie:∀(xs:List (Int×Int×Int)) (k:Nat),(hk:k<xs.length)→(flat3 xs)[k*3]?=some (.int .i64 xs[k].1)∧(flat3 xs)[k*3+1]?=some (.int .i64 xs[k].2.1)∧(flat3 xs)[k*3+2]?=some (.int .i64 xs[k].2.2)
 |x::xs,0,_=>by simp[flat3]
 |x::xs,k+1,hk=>by
  have:=aie xs k BC;simp only[flat3,jN,Hz]at this ⊢;refine⟨?_,?_,?_⟩
  ·rw[show(k+1)*3=k*3+1+1+1 from ae];simpa using this.1
  ·rw[show(k+1)*3+1=k*3+1+1+1+1 from ae];simpa using this.2.1
  ·rw[show(k+1)*3+2=k*3+2+1+1+1 from ae];simpa using this.2.2
theorem aAN{w:World}{e:Nat}{xs:List (Int×Int×Int)}(h:w.ownsRow base e 3 v xs.length (flat3 xs)):CG w v xs:=by
 have h':=h;obtain⟨hl,h2⟩:=h;rcases h2 with⟨rfl,h0⟩|⟨g,cap,cur,rfl,hg,hh,hn,hc,hs,ht⟩
 ·have:xs=[]:=jo ae;subst this;exact CG.nil
 ·refine⟨_,_,rfl,hn,hc,λ_=>⟨g,0,rfl,λk hk=>?_⟩⟩;obtain⟨f1,f2,f3⟩:=aie xs k hk;have g1:=h'.cellAt (k*3) ae;have g2:=h'.cellAt (k*3+1) ae;have g3:=h'.cellAt (k*3+2) ae;simp only[oJ];refine⟨?_,?_,?_⟩
  ·rw[g1];simp[f1]
  ·rw[g2];simp[f2]
  ·rw[g3];simp[f3]
theorem Ko(w:World)(x y z:Value)(t:TypeId):∀j u,[x,y,z][j]?=some u→(w.alloc (.cells #[x,y,z] t)).cell? ((⟨w.heap.size,0,none⟩:Addr).add j)=some u:=by
 intro j u hj
 match j,hj with
 |0,hj=>simp at hj;subst hj;simp[Addr.add]
 |1,hj=>simp at hj;subst hj;simp[Addr.add]
 |2,hj=>simp at hj;subst hj;simp[Addr.add]
theorem avE:(prog.info? 209).map (λi=>(i.zero,i.size,i.bytes))=some (some (.agg #[.int .i64 0,.int .i64 0,.int .i64 0]),3,24):=aF
def UB(ps:List (Int×Int×Int))(err:Int)(w:World)(e:Ending)(w':World):Prop:=∃v,e=.returned (.tuple #[v,err])∧CG w' v ps∧BL w w'
def zx(b r o t:Int):Int:=if t=b then r-b+o else 0
def zy(b r o t:Int):Int:=if t=-b then -r+b+o else 0
def jZ(b r o t:Int):Bool:=decide (zy b r o t≤0)&&(decide (0≤zx b r o t)&&(!(zy b r o t==0&&zx b r o t==0) || decide (xS t o≤r)))
def dR(b r o:Int)(k:Nat):List (Int×Int×Int):=((List.range k).filter λi:Nat=>jZ b r o ((i:Int)-b)).map λi:Nat=>((i:Int),zy b r o ((i:Int)-b),zx b r o ((i:Int)-b))
def Gs(b r o:Int):List (Int×Int×Int):=dR b r o (2*b+1).toNat
def KX(b l h r o:Int):List (Int×Int×Int)×Int:=if vV b l h r=true then(if dw o (-b) b=true then(Gs b r o,0)else([],1))else([],30)
theorem acg(b r o:Int)(k:Nat):(dR b r o k).length≤k:=by
 have:=FV (λi:Nat=>jZ b r o ((i:Int)-b)) (List.range k);simpa[dR]using this
theorem RA{o:Int}(h:jZ b r o ((k:Int)-b)=false):dR b r o (k+1)=dR b r o k:=by
 simp[dR,jq,wS,h]
theorem KY{o lo:Int}(h:jZ b r o ((k:Int)-b)=true)(h1:zy b r o ((k:Int)-b)=lo)(h2:zx b r o ((k:Int)-b)=hi):dR b r o (k+1)=dR b r o k++[((k:Int),lo,hi)]:=by
 simp[dR,jq,wS,h,h1,h2]
def F4(B:Nat)(b l h r:Int)(W:World):Prop:=
 W.cell? ⟨B,0,none⟩=some (.int .i64 b)∧W.cell? ⟨B,1,none⟩=some (.int .i64 l)∧W.cell? ⟨B,2,none⟩=some (.int .i64 h)∧W.cell? ⟨B,3,none⟩=some (.int .i64 r)∧B<W.heap.size
theorem F4.next{l:Int}(hp:F4 B b l h r W)(hb:BL W W'):F4 B b l h r W':=by
 obtain⟨h0,h1,h2,h3,h4⟩:=hp;have:=hb.size;exact⟨(hb.cell (p:=⟨B,0,none⟩) h4).trans h0,(hb.cell (p:=⟨B,1,none⟩) h4).trans h1,(hb.cell (p:=⟨B,2,none⟩) h4).trans h2,(hb.cell (p:=⟨B,3,none⟩) h4).trans h3,ae⟩
theorem ru{o:Obj}(h:Below (W.alloc o).heap.size (W.alloc o) W'):BL W W':=Bl.call (Bl.alloc (aB _ _) _) h
theorem F4.alloc{l:Int}(hp:F4 B b l h r W)(o:Obj):F4 B b l h r (W.alloc o):=hp.next (Bl.alloc (aB _ _) _)
theorem F4.grown{l:Int}(hp:F4 B b l h r W){row:Option Nat}(hg:W.grownBy W' row)(hne:some B≠row):F4 B b l h r W':=by
 obtain⟨h0,h1,h2,h3,h4⟩:=hp;have:=hg.size;exact⟨(hg.cell_far ⟨B,0,none⟩ h4 hne).trans h0,(hg.cell_far ⟨B,1,none⟩ h4 hne).trans h1,(hg.cell_far ⟨B,2,none⟩ h4 hne).trans h2,(hg.cell_far ⟨B,3,none⟩ h4 hne).trans h3,ae⟩
attribute [local go_sem] Qv
structure Same(A:Nat→Prop)(w w':World):Prop where
 size:w.heap.size≤w'.heap.size
 block:∀b,A b→b<w.heap.size→w'.heap[b]?=w.heap[b]?
theorem Same.below{w:World}(h:BL w w'):Same A w w':=⟨h.size,λb _ hb=>h.block b hb⟩
theorem Same.grown{w:World}{row:Option Nat}(h:w.grownBy w' row):Same (λb=>some b≠row) w w':=⟨h.size,λb hne hb=>h.block b hb hne⟩
theorem Same.mono{A':Nat→Prop}{w:World}(h:Same A w w')(ha:∀b,A' b→A b):Same A' w w':=⟨h.size,λb hb=>h.block b (ha b hb)⟩
theorem Same.refl(A:Nat→Prop)(w:World):Same A w w:=⟨aV _,λ_ _ _=>rfl⟩
theorem Same.trans{w w'':World}(h:Same A w w')(k:Same A w' w''):Same A w w'':=⟨fK h.size k.size,λb ha hb=>(k.block b ha (nH hb h.size)).trans (h.block b ha hb)⟩
theorem Same.set{w:World}{p:Addr}(h:¬A p.block)(u:Value):Same A w (w.setCell p u):=
 ⟨ado,λb ha _=>by
  have:¬p.block=b:=λe=>h (e ▸ ha)
  simp[World.setCell,XG,this]⟩
theorem Same.cell{w:World}(h:Same A w w'){p:Addr}(ha:A p.block)(hv:w.cell? p=some v):w'.cell? p=some v:=
 (iL (h.block p.block ha (fe w p hv))).trans hv
structure Shape(α:Type)where
 n:Nat
 reads:(Nat→Prop)→World→List Value→α→Prop
 len:∀ {A w cs a},reads A w cs a→cs.length=n
 keep:∀ {A w w' cs a},reads A w cs a→Same A w w'→reads A w' cs a
 mono:∀ {A A':Nat→Prop} {w cs a},reads A w cs a→(∀b,b<w.heap.size→A b→A' b)→reads A' w cs a
def Shape.int:Shape Int:=⟨1,λ_ _ cs a=>cs=[.int .i64 a],λh=>by rw[h];rfl,λh _=>h,λh _=>h⟩
def Shape.bool:Shape Bool:=⟨1,λ_ _ cs a=>cs=[.bool a],λh=>by rw[h];rfl,λh _=>h,λh _=>h⟩
def Shape.pair{α β:Type}(s:Shape α)(t:Shape β):Shape (α×β) where
 n:=s.n+t.n
 reads A w cs p:=∃c d,cs=c++d∧s.reads A w c p.1∧t.reads A w d p.2
 len:=λ⟨c,d,h,h1,h2⟩=>by rw[h,dn,s.len h1,t.len h2]
 keep:=λ⟨c,d,h,h1,h2⟩ k=>⟨c,d,h,s.keep h1 k,t.keep h2 k⟩
 mono:=λ⟨c,d,h,h1,h2⟩ k=>⟨c,d,h,s.mono h1 k,t.mono h2 k⟩
def Shape.row{α:Type}(s:Shape α)(A:Nat→Prop)(w:World)(b o:Nat)(xs:List α):Prop:=
 ∀k,(h:k<xs.length)→∃cs,s.reads A w cs xs[k]∧∀j,j<s.n→w.cell? ⟨b,o+k*s.n+j,none⟩=cs[j]?
theorem Shape.row_keep{s:Shape α}{w:World}{b:Nat}{xs:List α}(h:s.row A w b o xs)(hA:A b)(hs:Same A w w'):s.row A w' b o xs:=by
 intro k hk;obtain⟨cs,h1,h2⟩:=h k hk;refine⟨cs,s.keep h1 hs,λj hj=>?_⟩;have hl:j<cs.length:=by rw[s.len h1];exact hj
 rw[di hl];exact hs.cell hA (by rw[h2 j hj,di hl])
def Shape.list{α:Type}(s:Shape α):Shape (List α) where
 n:=1
 reads A w cs xs:=∃a c,cs=[.slice a xs.length c]∧xs.length≤c∧c≤maxLen∧(0<xs.length→∃b o,a=some ⟨b,o,none⟩∧b<w.heap.size∧A b∧s.row A w b o xs)
 len:=λ⟨a,c,h,_⟩=>by rw[h];rfl
 keep:=λ⟨a,c,h,h1,h2,h3⟩ k=>⟨a,c,h,h1,h2,λh0=>by
  obtain⟨b,o,e,hb,hA,hr⟩:=h3 h0
  exact⟨b,o,e,nH hb k.size,hA,Shape.row_keep hr hA k⟩⟩
 mono:=λ⟨a,c,h,h1,h2,h3⟩ k=>⟨a,c,h,h1,h2,λh0=>by
  obtain⟨b,o,e,hb,hA,hr⟩:=h3 h0;refine⟨b,o,e,hb,k b hb hA,λi hi=>?_⟩;obtain⟨cs,g1,g2⟩:=hr i hi
  exact⟨cs,s.mono g1 k,g2⟩⟩
section
variable {α:Type} {s:Shape α} {A:Nat→Prop} {w w':World} {v:Value} {xs:List α}
def aC(s:Shape α)(w:World)(v:Value)(xs:List α):Prop:=s.list.reads (λ_=>True) w [v] xs
theorem Shape.below{a:α}(h:s.reads A w cs a)(hb:BL w w'):s.reads A w' cs a:=s.keep h (Same.below hb)
theorem aC.below(h:aC s w v xs)(hb:BL w w'):aC s w' v xs:=s.list.keep h (Same.below hb)
theorem aC.shape(h:aC s w v xs):∃a c,v=.slice a xs.length c∧xs.length≤c∧c≤maxLen:=by
 obtain⟨a,c,h,h1,h2,_⟩:=h;exact⟨a,c,wu,h1,h2⟩
theorem aC.nil:aC s w (.slice none 0 0) []:=⟨none,0,rfl,aj,aj,aj⟩
theorem aC.at{a:Option Addr}{n:Nat}(h:aC s w (.slice a n c) xs)(hk:k<xs.length):
  ∃b o cs,a=some ⟨b,o,none⟩∧b<w.heap.size∧s.reads (λ_=>True) w cs xs[k]∧∀j,j<s.n→w.cell? ⟨b,o+k*s.n+j,none⟩=cs[j]?:=by
 obtain⟨a',c',h,h1,h2,h3⟩:=h;simp only[oC,qY,qZ]at h;obtain⟨rfl,rfl,rfl⟩:=h;obtain⟨b,o,e,hb,_,hr⟩:=h3 ae;obtain⟨cs,g1,g2⟩:=hr k hk;exact⟨b,o,cs,e,hb,g1,g2⟩
end
def Own{α:Type}(s:Shape α)(A:Nat→Prop)(w:World)(base:Nat)(e:TypeId)(v:Value)(xs:List α):Prop:=
 ∃css:List (List Value),css.length=xs.length∧w.ownsRow base e s.n v xs.length css.flatten∧∀k,(h:k<xs.length)→(g:k<css.length)→s.reads (λb=>A b∧some b≠v.ownBlock) w css[k] xs[k]
section
variable {α:Type} {s:Shape α} {A:Nat→Prop} {w w':World} {v:Value} {xs:List α} {base:Nat} {e:TypeId}
theorem Own.nil:Own s A w base e (.slice none 0 0) []:=⟨[],rfl,by simpa using nJ w base e s.n,λk h=>by simp at h⟩
theorem Own.keep(h:Own s A w base e v xs)(hs:Same (λb=>A b∨some b=v.ownBlock) w w'):Own s A w' base e v xs:=by
 obtain⟨css,h1,h2,h3⟩:=h;refine⟨css,h1,?_,λk hk g=>s.keep (h3 k hk g) (hs.mono λb hb=>.inl hb.1)⟩;refine⟨h2.1,?_⟩;rcases h2.2 with hn|⟨g,cap,cur,rfl,hb,hgg,rest⟩
 ·exact .inl hn
 ·refine .inr ⟨g,cap,cur,rfl,hb,?_,rest⟩;rw[hs.block g (.inr rfl) (nu.1 hgg).1];exact hgg
theorem Own.below(h:Own s A w base e v xs)(hb:BL w w'):Own s A w' base e v xs:=h.keep (Same.below hb)
theorem Own.lt(h:Own s A w base e v xs):∀k,v.ownBlock=some k→base≤k∧k<w.heap.size:=by
 obtain⟨css,h1,h2,h3⟩:=h;exact h2.lt
theorem Own.slice(h:Own s A w base e v xs):∃a c,v=.slice a xs.length c:=by
 obtain⟨css,h1,h2,h3⟩:=h;rcases h2.2 with⟨rfl,h0⟩|⟨g,cap,cur,rfl,_⟩
 ·exact⟨none,0,by rw[h0]⟩
 ·exact⟨_,_,rfl⟩
theorem M4{n:Nat}:∀ {css:List (List Value)},(∀c∈css,c.length=n)→∀(k j:Nat) (hk:k<css.length),j<n→css.flatten[k*n+j]?=css[k][j]?
 |[],_,k,j,hk,_=>by simp at hk
 |c::css,h,0,j,_,hj=>by
  have:=h c aj;simp[Zp,this,hj]
 |c::css,h,k+1,j,hk,hj=>by
  have hc:=h c aj;have:=M4 (css:=css) (λd hd=>h d (by simp[hd])) k j BC hj;have e:(k+1)*n+j=c.length+(k*n+j):=by rw[hc,Aw];omega
  simp only[J6,Hz];rw[e,PV ae];simpa using this
theorem Own.lst(h:Own s A w base e v xs):s.list.reads (λb=>A b∨some b=v.ownBlock) w [v] xs:=by
 obtain⟨css,h1,h2,h3⟩:=h;have h2':=h2;rcases h2.2 with⟨rfl,h0⟩|⟨g,cap,cur,rfl,hb,hgg,hnc,hcm,hcs,ht⟩
 ·have:xs=[]:=jo h0;subst this;exact⟨none,0,rfl,aj,aj,aj⟩
 ·refine⟨_,cap,rfl,hnc,hcm,λhp=>⟨g,0,rfl,(h2'.lt g rfl).2,.inr rfl,λk hk=>?_⟩⟩;refine⟨css[k],s.mono (h3 k hk ae) (λb _ hb=>.inl hb.1),λj hj=>?_⟩
  have hlen:∀c∈css,c.length=s.n:=by
   intro c hc;obtain⟨i,hi,rfl⟩:=mr hc;exact s.len (h3 i ae hi)
  have hf:=M4 hlen k j ae hj;rw[←hf]
  have hl:k*s.n+j<css.flatten.length:=by
   rw[h2.1];have:(k+1)*s.n≤xs.length*s.n:=P7 _ hk;rw[Aw]at this;omega
  have hc:=h2'.cellAt (k*s.n+j) (by rw[←h2.1];exact hl);rw[oJ,hc]
theorem Own.app(h:Own s A w base e v xs):∃cs,w.ownsRow base e s.n v xs.length cs∧∀ {w':World} {v':Value} {ys:List α} {news:List (List Value)} {m:Nat},m=xs.length+ys.length→news.length=ys.length→
  (∀k,(h:k<ys.length)→(g:k<news.length)→s.reads (λb=>A b∧some b≠v.ownBlock) w news[k] ys[k])→w'.ownsRow base e s.n v' m (cs++news.flatten)→w.grownBy w' v.ownBlock→
  (v'.ownBlock=v.ownBlock∨∃k,v'.ownBlock=some k∧w.heap.size≤k)→Own s A w' base e v' (xs++ys):=by
 obtain⟨css,h1,h2,h3⟩:=h;refine⟨css.flatten,h2,fun {w' v' ys news m} hm hn hr ho hg hv=>⟨css++news,by simp[h1,hn],?_,λk hk g=>?_⟩⟩
 ·exact aEX
 ·have key:∀ {c:List Value} {x:α},s.reads (λb=>A b∧some b≠v.ownBlock) w c x→s.reads (λb=>A b∧some b≠v'.ownBlock) w' c x:=by
   intro c x hc;have a1:s.reads (λb=>(A b∧some b≠v.ownBlock)∧b<w.heap.size) w c x:=s.mono hc λb hb ha=>⟨ha,hb⟩;have a2:=s.keep a1 ((Same.grown hg).mono λb hb=>hb.1.2);refine s.mono a2 λb _ hb=>⟨hb.1.1,?_⟩;rcases hv with e1|⟨q,e1,e2⟩
   ·rw[e1];exact hb.1.2
   ·rw[e1];intro e3;cases e3;omega
  by_cases hlt:k<xs.length
  ·rw[Ul hlt,Ul ae];exact key (h3 k hlt ae)
  ·have hge:css.length≤k:=ae;have hy:k-xs.length<ys.length:=WK;have hq:k-xs.length<news.length:=ae;have e1:(xs++ys)[k]=ys[k-xs.length]:=Um ae;have e2:(css++news)[k]=news[k-xs.length]:=ayU;rw[e1,e2];exact key (hr (k-xs.length) hy hq)
end
def Plain{α:Type}(s:Shape α)(enc:α→List Value):Prop:=∀ {A w cs a},s.reads A w cs a↔cs=enc a
theorem yD:Plain Shape.int λa=>[a]:=Iff.rfl
theorem NS{s:Shape α}{t:Shape β}{f:α→List Value}{g:β→List Value}(hs:Plain s f)(ht:Plain t g):Plain (s.pair t) λp=>f p.1++g p.2:=by
 intro A w cs a;constructor
 ·rintro⟨c,d,rfl,h1,h2⟩;rw[hs.1 h1,ht.1 h2]
 ·rintro rfl;exact⟨_,_,rfl,hs.2 rfl,ht.2 rfl⟩
def Shape.span:Shape (Int×Int):=Shape.int.pair Shape.int
theorem mE:Plain Shape.span λp=>[p.1,p.2]:=NS yD yD
theorem aC.atP{s:Shape α}{enc:α→List Value}(hp:Plain s enc){w:World}{a:Option Addr}{n:Nat}{xs:List α}(h:aC s w (.slice a n c) xs)(hk:k<xs.length):
  ∃b o,a=some ⟨b,o,none⟩∧∀j,j<s.n→w.cell? ⟨b,o+k*s.n+j,none⟩=(enc xs[k])[j]?:=by
 obtain⟨b,o,cs,e,_,h1,h2⟩:=h.at hk;rw[hp.1 h1]at h2;exact⟨b,o,e,h2⟩
theorem aC.int_at{w:World}{a:Option Addr}{n:Nat}{xs:List Int}(h:aC Shape.int w (.slice a n c) xs)(hk:k<xs.length):∃b o,a=some ⟨b,o,none⟩∧w.cell? ⟨b,o+k,none⟩=some (.int .i64 xs[k]):=by
 obtain⟨b,o,e,h1⟩:=h.atP yD hk;exact⟨b,o,e,by simpa[Shape.int]using h1 0 (by simp[Shape.int])⟩
theorem aC.span_at{w:World}{a:Option Addr}{n:Nat}{xs:List (Int×Int)}(h:aC Shape.span w (.slice a n c) xs)(hk:k<xs.length):
  ∃b o,a=some ⟨b,o,none⟩∧w.cell? ⟨b,o+k*2,none⟩=some (.int .i64 xs[k].1)∧w.cell? ⟨b,o+k*2+1,none⟩=some (.int .i64 xs[k].2):=by
 obtain⟨b,o,e,h1⟩:=h.atP mE hk;exact⟨b,o,e,by simpa[Shape.span,Shape.pair,Shape.int]using h1 0 (by simp[Shape.span,Shape.pair,Shape.int]),by simpa[Shape.span,Shape.pair,Shape.int]using h1 1 (by simp[Shape.span,Shape.pair,Shape.int])⟩
theorem Shape.list_far{s:Shape α}{w:World}{xs:List α}(h:s.list.reads A w [v] xs):aC s w v xs:=s.list.mono h λ_ _ _=>trivial
abbrev Up(w w':World):Prop:=BL w w'
abbrev CB(w:World):World→Prop:=λw'=>∃p:Regrown,w'=Sort.grow (redrawn w p.d) p.os
theorem CB.iff{w:World}:CB w w'↔Up w w':=⟨λ⟨p,h⟩=>h ▸ Ih w p.d p.os,regrown_of_below⟩
theorem Up.tr{a b c:World}(h:Up a b)(k:Up b c):Up a c:=Bl.call h k
section
variable {P:Program} {ops:Array Oper} {Q:Exit→Act→World→Prop} {mt mv:List Nat}
def bR(l:Array Bool)(i:Nat):Array Bool:=l.setIfInBounds i true
def kM(P:Program)(ops:Array Oper)(mt mv:List Nat)(Q:Exit→Act→World→Prop):Nat→Array Bool→Act→(World→Prop)→Prop
 |0,listed,a,C=>Region.ready .any ops listed=[]∧∀w',C w'→Q .normal a w'
 |fuel+1,listed,a,C=>(Region.ready .any ops listed=[]→∀w',C w'→Q .normal a w')∧
  ∀i∈Region.ready .any ops listed,∀w',C w'→wpOp P ops Q i (λa' w''=>∃C',C' w''∧(i∈mt∨∀w,C' w→C w)∧(i∈mv∨C'=C)∧kM P ops mt mv Q fuel (bR listed i) a' C') a w'
theorem adY:∀(fuel:Nat) (listed:Array Bool) (a:Act) (C:World→Prop) (w:World),C w→kM P ops mt mv Q fuel listed a C→wpAny P .any ops Q fuel listed a w
 |0,_,_,_,w,hw,h=>⟨h.1,h.2 w hw⟩
 |fuel+1,_,_,_,w,hw,h=>⟨λe=>h.1 e w hw,λi hi=>Jw (λa' w' ⟨C',h1,_,_,h2⟩=>adY fuel _ a' C' w' h1 h2) (h.2 i hi w hw)⟩
def Dn(ops:Array Oper)(listed:Array Bool):Prop:=∀k o,ops[k]?=some o→listed.getD k true=true→∀e∈o.after,Region.binds .any e=true→listed.getD e.on false=true
theorem Dn.set(h:Dn ops listed)(hi:i∈Region.ready .any ops listed):Dn ops (bR listed i):=by
 intro k o ho hk e he hb;obtain⟨_,oi,hoi,hall⟩:=yB.1 hi;by_cases hki:i=k
 ·subst hki;rw[hoi]at ho;cases ho;exact aix (hall e he hb)
 ·exact aix (h k o ho ((M6 true hki).symm.trans hk) e he hb)
def comes(ops:Array Oper)(i:Nat):Nat→Nat→Bool
 |0,_=>false
 |fuel+1,j=>match ops[j]? with
  |none=>false
  |some o=>o.after.any λe=>Region.binds .any e&&(e.on==i || comes ops i fuel e.on)
theorem ahH(hD:Dn ops listed)(hi:listed.getD i false=false):∀(fuel j:Nat),comes ops i fuel j=true→listed.getD j true=true∨j∈Region.ready .any ops listed→False
 |0,_,h,_=>by simp[comes]at h
 |fuel+1,j,h,hj=>by
  unfold comes at h
  cases ho:ops[j]? with
  |none=>rw[ho]at h;simp at h
  |some o=>
   rw[ho]at h;obtain⟨e,he,hb⟩:=Array.any_eq_true'.1 h;simp only[bW,OB,beq_iff_eq]at hb
   have hl:listed.getD e.on false=true:=by
    rcases hj with hj|hj
    ·exact hD j o ho hj e he hb.1
    ·obtain⟨_,o',ho',hall⟩:=yB.1 hj;rw[ho]at ho';cases ho';exact hall e he hb.1
   rcases hb.2 with h1|h1
   ·rw[h1,hi]at hl;cases hl
   ·refine ahH hD hi fuel e.on h1 (.inl ?_)
    have:e.on<listed.size:=by
     by_cases hlt:e.on<listed.size
     ·exact hlt
     ·simp[Array.getD,hlt]at hl
    simp[Array.getD,this]at hl ⊢;exact hl
def Df(ops:Array Oper)(mt:List Nat)(listed:Array Bool)(i:Nat):Bool:=mt.all λj=>listed.getD j false || comes ops i ops.size j
theorem aFJ{Q':Exit→Act→World→Prop}{o:Oper}{w:World}(h1:∀c a w,Q' (.panic c) a w→Q (.panic c) a w)(h2:LetsOut Q'→LetsOut Q)(h:o.wp P a w K Q'):o.wp P a w K Q:=by
 unfold Oper.wp at *;generalize (execOp a.eval o).run P w=r at *
 cases r with
 |ok n w'=>
  cases n<;>simp only[Oper.upon]at h ⊢<;>first
   |exact h
   |exact OC h (λe w'' he=>by
     cases e<;>first|exact he|exact h1 _ _ _ he|exact h2 he)
 |halt x w'=>
  cases x<;>simp only[Oper.upon]at h ⊢;exact h1 _ _ _ h
theorem Xt{oj:Oper}(hj:ops[j]?=some oj)(hap:oi.apart ops oj=true)(hsi:∀cs b,oi.op≠.select cs b)(hsj:∀cs b,oj.op≠.select cs b)
  (hQ:∀c a d v w,Q (.panic c) (a.put d v) w→Q (.panic c) a w) {K:Act→World→Prop} {a:Act} {w:World} (hy:YieldsIn P ops C oi v a) (h:wpOp P ops Q j K (a.put oi.dst v) w) :
  wpOp P ops Q j (λa' w'=>YieldsIn P ops C oi v a'∧K (a'.put oi.dst v) w') a w:=by
 obtain⟨h1,h2,h3⟩:=Oper.apart_spec hap;have kp:∀a,YieldsIn P ops C oi v a→∀u,YieldsIn P ops C oi v (a.put oj.dst u):=λa hy u=>hy.of_same (U7 oi hsi a oj.dst u h3) (adU oi a oj.dst u h3);unfold wpOp at *;simp only[hj]at *;rw[adU oj a oi.dst v h1]at h;by_cases hw:Region.wanted oj (yielded ops a.tmps)=true
 ·rw[aG hw]at h ⊢;rcases h with h|⟨h,hl⟩
  ·refine .inl ?_;unfold Oper.wp at *;rw[U7 oj hsj a oi.dst v h1]at h;generalize (execOp a.eval oj).run P w=r at *
   cases r with
   |halt x w'=>
    cases x<;>simp only[Oper.upon]at h ⊢;exact hQ _ _ _ _ _ h
   |ok n w'=>
    cases n<;>simp only[Oper.upon]at h ⊢
    case value u=>exact⟨kp a hy u,by rw[←zS a v u h2];exact h⟩
    case skip=>exact⟨kp a hy _,amq⟩
    case defer d=>
     have hd:YieldsIn P ops C oi v { a with defers:=d::a.defers }:=hy.of_same rfl rfl;exact⟨kp _ hd _,azb⟩
    case enter f args=>
     refine OC h λe w'' he=>?_
     cases e with
     |returned u=>exact⟨kp a hy u,Wz⟩
     |panicked c=>exact hQ _ _ _ _ _ he
     |outgrown=>exact he
    case row=>exact Rows.mono h λu w'' he=>⟨kp a hy u,Wz⟩
  ·exact .inr ⟨by unfold Oper.asks at *;rw[execOp_put oj hsj a oi.dst v h1]at h;exact h,hl⟩
 ·rw[aD hw]at h ⊢;exact⟨kp a hy _,amq⟩
theorem YieldsIn.op{o:Oper}(hi:ops[i]?=some o)(hy:YieldsIn P ops C o v a)(hu:C w1)(h:∀w2,C w2→K (a.put o.dst v) w2):wpOp P ops Q i K a w1:=by
 unfold wpOp;simp only[hi];rcases hy with⟨hw,hv⟩|⟨hw,rfl⟩
 ·rw[aG hw];exact .inl (Oper.wp_of_quiet (C:=C) (K:=λa'=>a'=a.put o.dst v) hu (λa' w' hc ha=>by rw[ha];exact h w' hc) ⟨v,hv,rfl⟩)
 ·simp only[hw];exact h _ hu
def NE(s:Sem Next):Prop:=∀P w f args w',s.run P w≠.ok (.enter f args) w'
theorem NE.value(s:Sem α)(g:α→Value):NE (s >>= λx=>pure (Next.value (g x))):=by
 intro P w f args w' h;rw[wU]at h
 cases hr:s.run P w with
 |ok x w1=>rw[hr]at h;simp[Result.andThen]at h
 |halt x w1=>rw[hr]at h;simp[Result.andThen]at h
theorem NE.bind(s:Sem α)(g:α→Sem Next)(hg:∀x,NE (g x)):NE (s >>= g):=by
 intro P w f args w' h;rw[wU]at h
 cases hr:s.run P w with
 |ok x w1=>rw[hr]at h;exact hg x P w1 f args w' h
 |halt x w1=>rw[hr]at h;simp at h
theorem NE.pure(v:Value):NE (pure (Next.value v)):=by intro P w f args w' h;simp at h
def EM(o:Oper):Bool:=match o.op with
 |.move _|.assign _|.pick ..|.load ..|.binOp ..|.unOp ..|.slice ..|.fieldAddr ..|.field ..|.indexAddr ..|.index ..|.extract ..|.build ..|.nilCheck _=>true
 |.call c=>(match c.callee with|.builtin .len|.builtin .cap|.builtin .min|.builtin .max=>true|_=>false)
 |_=>false
theorem NH{o:Oper}(h:EM o=true)(ρ:Operand→Value):NE (execOp ρ o):=by
 unfold EM at h;unfold execOp
 cases ho:o.op<;>simp only[ho]at h ⊢<;>first
  |exact NE.pure _
  |exact NE.value _ _
  |cases h
  |skip
 case nilCheck x=>
  have hp:NE (runtimePanic .nilDeref):=λP w f args w' hr=>by simp[runtimePanic,goPanic,go_sem]at hr
  split<;>first
   |exact hp
   |exact NE.pure _
   |(split<;>first
     |exact hp
     |exact NE.pure _
     |exact NE.bind _ _ λ_=>NE.bind _ _ λ_=>by split<;>first|exact NE.bind _ _ λ_=>NE.pure _|exact NE.pure _)
 case call c=>
  cases hc:c.callee with
  |builtin b=>
   rw[hc]at h;simp only[resolve,hc];intro P w f args w' hr;rw[wU,Ke,AB]at hr;simp only[invoke,builtin]at hr
   cases b<;>first
    |exact NE.value _ _ P w f args w' hr
    |simp at h
  |_=>simp[hc]at h
theorem NG(hD:Dn ops listed)(hi:listed.getD i false=false)(hmt:Df ops mt listed i=true)(hj:j∈Region.ready .any ops listed):j∉mt:=λhm=>by
 have h1:=mq.1 hmt j hm;rw[OB]at h1;rcases h1 with h1|h1
 ·have h2:=(yB.1 hj).1
  have hjlt:j<listed.size:=by
   by_cases h:j<listed.size
   ·exact h
   ·simp[Array.getD,h]at h2
  simp[Array.getD,hjlt]at h1 h2;rw[h1]at h2;cases h2
 ·exact ahH hD hi _ _ h1 (.inr hj)
theorem NF{l:List Nat}(h:Df ops l listed i=true):Df ops l (bR listed j) i=true:=by
 refine mq.2 λk hk=>?_;have h8:=mq.1 h k hk;rw[OB]at h8 ⊢;exact h8.imp aix id
theorem aqa(hi:ops[i]?=some oi)(hsel:Region.noSelect ops=true)(hQ:∀c a d v w,Q (.panic c) (a.put d v) w→Q (.panic c) a w):
  ∀(fuel:Nat) (listed:Array Bool) (a:Act) (C:World→Prop),listed.size=ops.size→Dn ops listed→
   (∀j oj,ops[j]?=some oj→j≠i→listed.getD j true=false→(∀e∈oj.after,Region.binds .any e=true→e.on≠i)→oi.apart ops oj=true)→
   Df ops mt listed i=true→(EM oi=true∨Df ops mv listed i=true)→i∈Region.ready .any ops listed→YieldsIn P ops C oi v a→kM P ops mt mv Q fuel (bR listed i) (a.put oi.dst v) C→kM P ops mt mv Q (fuel+1) listed a C:=by
 intro fuel
 induction fuel with
 |zero=>
  intro listed a C hsz hD hfree hmt hnc hr hy H;refine⟨λh=>Dv,λj hj w' hw'=>?_⟩;by_cases hji:j=i
  ·subst hji;exact YieldsIn.op hi hy hw' λw2 h2=>⟨C,h2,.inr λ_ h=>h,.inr rfl,H⟩
  ·have:=uS (md:=.any) hj hji;unfold bR at H;rw[H.1]at this;cases this
 |succ n ih=>
  intro listed a C hsz hD hfree hmt hnc hr hy H;refine⟨λh=>Dv,λj hj w' hw'=>?_⟩;by_cases hji:j=i
  ·subst hji;exact YieldsIn.op hi hy hw' λw2 h2=>⟨C,h2,.inr λ_ h=>h,.inr rfl,H⟩
  ·have hir:=(yB.1 hr).1
   have hilt:i<listed.size:=by
    by_cases h:i<listed.size
    ·exact h
    ·exact aFD
   have hif:listed.getD i false=false:=Sb;have hjm:j∉mt:=NG hD hif hmt hj;have h1:=H.2 j (uS hj hji) w' hw';obtain⟨hjun,oj,hoj,hall⟩:=yB.1 hj
   have hnot:∀e∈oj.after,Region.binds .any e=true→e.on≠i:=λe he hb heq=>by
    have h2:=hall e he hb;rw[heq,hif]at h2;cases h2
   have h2:=Xt hoj (hfree j oj hoj hji hjun hnot) (λcs b=>CE hsel i oi cs b hi) (λcs b=>CE hsel j oj cs b hoj) hQ hy h1;refine Jw (λa' w'' h3=>?_) h2;obtain⟨h4,C',h5,h6,yo,h7⟩:=h3;have hsub:∀w3,C' w3→C w3:=h6.resolve_left hjm;refine⟨C',h5,h6,yo,ih (bR listed j) a' C' Sg (hD.set hj) ?_ (NF hmt) (hnc.imp id NF) (uS hr (Ay hji)) ?_ ?_⟩
   ·intro k ok hk hki hun hno;refine hfree k ok hk hki ?_ hno;by_cases hjk:j=k
    ·exact aFH
    ·exact aFI
   ·rcases h4 with⟨h8,h9⟩|h8
    ·refine .inl ⟨h8,λw3 hw3=>?_⟩;have h10:=h9 w3 (hsub w3 hw3);unfold Oper.quietAt at h10 ⊢;generalize hr3:(execOp a'.eval oi).run P w3=r at *
     cases r with
     |halt x w4=>simp only[Oper.quietUpon]at h10
     |ok n w4=>
      cases n<;>simp only[Oper.quietUpon]at h10 ⊢
      case value=>exact h10
      case skip=>exact h10
      case enter f args=>
       rcases hnc with hnc|hnc
       ·exact(NH hnc a'.eval P w3 f args w4 hr3).elim
       ·have:C'=C:=yo.resolve_left (NG hD hif hnc hj);rw[this];exact h10
    ·exact .inr h8
   ·unfold bR at h7 ⊢;rw[OA _ _ hji];exact h7
theorem aqb(hi:ops[i]?=some oi)(hsel:Region.noSelect ops=true)(hnc:EM oi=true)(hQ:∀c a d v w,Q (.panic c) (a.put d v) w→Q (.panic c) a w):
  ∀(fuel:Nat) (listed:Array Bool) (a:Act) (C:World→Prop),listed.size=ops.size→Dn ops listed→
   (∀j oj,ops[j]?=some oj→j≠i→listed.getD j true=false→(∀e∈oj.after,Region.binds .any e=true→e.on≠i)→oi.apart ops oj=true)→
   i∈Region.ready .any ops listed→YieldsIn P ops (λ_=>True) oi v a→kM P ops mt mv Q fuel (bR listed i) (a.put oi.dst v) C→kM P ops mt mv Q (fuel+1) listed a C:=by
 have hall:∀ {a:Act} {C:World→Prop},YieldsIn P ops (λ_=>True) oi v a→YieldsIn P ops C oi v a:=by
  intro a C hy;rcases hy with⟨h8,h9⟩|h8
  ·refine .inl ⟨h8,λw3 _=>?_⟩;have h10:=h9 w3 trivial;unfold Oper.quietAt at h10 ⊢;generalize hr3:(execOp a.eval oi).run P w3=r at *
   cases r with
   |halt x w4=>simp only[Oper.quietUpon]at h10
   |ok n w4=>
    cases n<;>simp only[Oper.quietUpon]at h10 ⊢
    case value=>exact h10
    case skip=>exact h10
    case enter f args=>exact(NH hnc a.eval P w3 f args w4 hr3).elim
  ·exact .inr h8
 intro fuel
 induction fuel with
 |zero=>
  intro listed a C hsz hD hfree hr hy H;refine⟨λh=>Dv,λj hj w' hw'=>?_⟩;by_cases hji:j=i
  ·subst hji;exact YieldsIn.op hi (hall hy) hw' λw2 h2=>⟨C,h2,.inr λ_ h=>h,.inr rfl,H⟩
  ·have:=uS (md:=.any) hj hji;unfold bR at H;rw[H.1]at this;cases this
 |succ n ih=>
  intro listed a C hsz hD hfree hr hy H;refine⟨λh=>Dv,λj hj w' hw'=>?_⟩;by_cases hji:j=i
  ·subst hji;exact YieldsIn.op hi (hall hy) hw' λw2 h2=>⟨C,h2,.inr λ_ h=>h,.inr rfl,H⟩
  ·have hir:=(yB.1 hr).1
   have hilt:i<listed.size:=by
    by_cases h:i<listed.size
    ·exact h
    ·exact aFD
   have hif:listed.getD i false=false:=Sb;have h1:=H.2 j (uS hj hji) w' hw';obtain⟨hjun,oj,hoj,hal⟩:=yB.1 hj
   have hnot:∀e∈oj.after,Region.binds .any e=true→e.on≠i:=λe he hb heq=>by
    have h2:=hal e he hb;rw[heq,hif]at h2;cases h2
   have h2:=Xt hoj (hfree j oj hoj hji hjun hnot) (λcs b=>CE hsel i oi cs b hi) (λcs b=>CE hsel j oj cs b hoj) hQ hy h1;refine Jw (λa' w'' h3=>?_) h2;obtain⟨h4,C',h5,h6,yo,h7⟩:=h3;refine⟨C',h5,h6,yo,ih (bR listed j) a' C' Sg (hD.set hj) ?_ (uS hr (Ay hji)) h4 ?_⟩
   ·intro k ok hk hki hun hno;refine hfree k ok hk hki ?_ hno;by_cases hjk:j=k
    ·exact aFH
    ·exact aFI
   ·unfold bR at h7 ⊢;rw[OA _ _ hji];exact h7
def bM(l:Array Bool)(q:List Nat):Array Bool:=q.foldl bR l
def xu(ops:Array Oper)(mt mv:List Nat):List Nat→Array Bool→Bool
 |[],_=>true
 |i::q,l=>(Region.ready .any ops l).contains i&&Region.free .any ops l i&&Df ops mt l i&&((match ops[i]? with|some o=>EM o|none=>false) || Df ops mv l i)&&xu ops mt mv q (bR l i)
theorem Kj(hsel:Region.noSelect ops=true)(hQ:∀c a d v w,Q (.panic c) (a.put d v) w→Q (.panic c) a w):∀(q:List Nat) (lq:List Oper) (listed:Array Bool) (a:Act),
  q.map (λi=>ops[i]?)=lq.map some→xu ops mt mv q listed=true→listed.size=ops.size→Dn ops listed→wpQuiet P ops C (λa'=>kM P ops mt mv Q fuel (bM listed q) a' C) lq a→kM P ops mt mv Q (fuel+q.length) listed a C
 |[],lq,listed,a,hm,hs,hz,hD,h=>by
  cases lq with
  |nil=>exact h
  |cons x xs=>simp at hm
 |i::q,lq,listed,a,hm,hs,hz,hD,h=>by
  cases lq with
  |nil=>simp at hm
  |cons o lq=>
   simp only[oG,oC]at hm;obtain⟨ho,hm⟩:=hm;simp only[xu,bW,ho]at hs;obtain⟨⟨⟨⟨hr,hf⟩,hmt⟩,hnc⟩,hs⟩:=hs;have hr':i∈Region.ready .any ops listed:=zK;have hq:qOp P ops C i (wpQuiet P ops C (λa'=>kM P ops mt mv Q fuel (bM (bR listed i) q) a' C) lq) a:=SC;obtain⟨v,hy,hK⟩:=SX ho hq;have:=Kj hsel hQ q lq (bR listed i) (a.put o.dst v) hm hs Si (hD.set hr') hK;exact aqa ho hsel hQ (fuel+q.length) listed a C hz hD (λj oj=>Qb ho hf j oj) hmt (by simpa using hnc) hr' hy this
theorem Dn.setL:∀(q:List Nat) {listed:Array Bool},Dn ops listed→xu ops mt mv q listed=true→Dn ops (bM listed q)
 |[],_,h,_=>h
 |i::q,_,h,hs=>by
  simp only[xu,bW]at hs;exact Dn.setL q (h.set (by simpa using hs.1.1.1.1)) hs.2
theorem ww:∀(q:List Nat) (listed:Array Bool),(bM listed q).size=listed.size
 |[],_=>rfl
 |i::q,l=>by simp only[bM,xO];exact(ww q (bR l i)).trans (by simp[bR])
def oZ(ops:Array Oper):List Nat→Array Bool→Bool
 |[],_=>true
 |i::q,l=>(Region.ready .any ops l).contains i&&Region.free .any ops l i&&(match ops[i]? with|some o=>EM o|none=>false)&&oZ ops q (bR l i)
theorem UG(hsel:Region.noSelect ops=true)(hQ:∀c a d v w,Q (.panic c) (a.put d v) w→Q (.panic c) a w):∀(q:List Nat) (lq:List Oper) (listed:Array Bool) (a:Act),
  q.map (λi=>ops[i]?)=lq.map some→oZ ops q listed=true→listed.size=ops.size→Dn ops listed→wpQuiet P ops (λ_=>True) (λa'=>kM P ops mt mv Q fuel (bM listed q) a' C) lq a→kM P ops mt mv Q (fuel+q.length) listed a C
 |[],lq,listed,a,hm,hs,hz,hD,h=>by
  cases lq with
  |nil=>exact h
  |cons x xs=>simp at hm
 |i::q,lq,listed,a,hm,hs,hz,hD,h=>by
  cases lq with
  |nil=>simp at hm
  |cons o lq=>
   simp only[oG,oC]at hm;obtain⟨ho,hm⟩:=hm;simp only[oZ,bW,ho]at hs;obtain⟨⟨⟨hr,hf⟩,hnc⟩,hs⟩:=hs;have hr':i∈Region.ready .any ops listed:=zK;have hq:qOp P ops (λ_=>True) i (wpQuiet P ops (λ_=>True) (λa'=>kM P ops mt mv Q fuel (bM (bR listed i) q) a' C) lq) a:=SC;obtain⟨v,hy,hK⟩:=SX ho hq;have:=UG hsel hQ q lq (bR listed i) (a.put o.dst v) hm hs Si (hD.set hr') hK;exact aqb ho hsel hnc hQ (fuel+q.length) listed a C hz hD (λj oj=>Qb ho hf j oj) hr' hy this
theorem Dn.setL0:∀(q:List Nat) {listed:Array Bool},Dn ops listed→oZ ops q listed=true→Dn ops (bM listed q)
 |[],_,h,_=>h
 |i::q,_,h,hs=>by
  simp only[oZ,bW]at hs;exact Dn.setL0 q (h.set (by simpa using hs.1.1.1)) hs.2
def aO:Nat→World→World→Prop
 |0,b=>λw=>w=b
 |1,b=>λw=>∃n,w=b.drewN n
 |_,b=>CB b
theorem Qw(e:Nat)(b:World):aO e b b:=
 match e with
 |0=>rfl
 |1=>⟨0,rfl⟩
 |_+2=>CB.iff.2 (aB _ _)
theorem Io{e:Nat}{b w:World}(h:aO e b w):Up b w:=
 match e,h with
 |0,h=>by cases h;exact aB _ _
 |1,⟨n,h⟩=>by subst h;exact Bl.drewN (aB _ _) n
 |_+2,h=>CB.iff.1 h
abbrev Az:=List (Nat×List Nat×Nat)
def uQ(ops:Array Oper)(mt mv:List Nat):Az→List Nat→Array Bool→Bool
 |[],fin,l=>xu ops mt mv fin l&&(Region.ready .any ops (bM l fin)).isEmpty
 |(_,q,m)::rest,fin,l=>xu ops mt mv q l&&(Region.ready .any ops (bM l q)==[m])&&mv.contains m&&uQ ops mt mv rest fin (bR (bM l q) m)
def dU(Q:Exit→Act→World→Prop)(K:Act→World→Prop):Exit→Act→World→Prop
 |.normal,a,w=>K a w
 |e,a,w=>Q e a w
def dV(b:Bool)(C:World→Prop)(w:World)(e:Nat):Prop:=b=true∨∀w',aO e w w'→C w'
def pu(P:Program)(ops:Array Oper)(mt:List Nat)(Q:Exit→Act→World→Prop):List (Nat×List Oper×Nat×Oper)→List Oper→Act→(World→Prop)→Prop
 |[],fin,a,C=>wpQuiet P ops C (λa'=>∀w',C w'→Q .normal a' w') fin a
 |(e,lq,m,o)::rest,fin,a,C=>wpQuiet P ops C (λa'=>∀w',C w'→wpList P ops (dU Q λa'' w''=>dV (mt.contains m) C w'' e∧pu P ops mt Q rest fin a'' (aO e w'')) [o] a' w') lq a
def iY(p:Az)(fin:List Nat):Nat:=p.foldr (λx n=>n+1+x.2.1.length) fin.length
theorem alH(hsel:Region.noSelect ops=true)(hQ:∀c a d v w,Q (.panic c) (a.put d v) w→Q (.panic c) a w)(fin:List Nat)(lf:List Oper)(hf:fin.map (λi=>ops[i]?)=lf.map some):∀(p:Az) (lp:List (Nat×List Oper×Nat×Oper)) (listed:Array Bool) (a:Act) (C:World→Prop),
  p.map (λx=>(x.1,x.2.1.map (λi=>ops[i]?),x.2.2,ops[x.2.2]?))=lp.map (λx=>(x.1,x.2.1.map some,x.2.2.1,some x.2.2.2))→uQ ops mt mv p fin listed=true→listed.size=ops.size→Dn ops listed→
  pu P ops mt Q lp lf a C→kM P ops mt mv Q (iY p fin) listed a C
 |[],lp,listed,a,C,hm,hB,hz,hD,h=>by
  cases lp with
  |cons x xs=>simp at hm
  |nil=>
   simp only[uQ,bW]at hB
   have:=Kj (fuel:=0) (mt:=mt) (mv:=mv) (C:=C) hsel hQ fin lf listed a hf hB.1 hz hD (by
    refine(?_:wpQuiet P ops C (λa'=>kM P ops mt mv Q 0 (bM listed fin) a' C) lf a)
    have e:(λa'=>kM P ops mt mv Q 0 (bM listed fin) a' C)=(λa'=>∀w',C w'→Q .normal a' w'):=by
     funext a'
     simp only[kM,aay];exact⟨λh=>h.2,λh=>⟨WL,h⟩⟩
    rw[e];exact h)
   simpa[iY]using this
 |(e,q,m)::p,lp,listed,a,C,hm,hB,hz,hD,h=>by
  cases lp with
  |nil=>simp at hm
  |cons x xs=>
   obtain⟨e',lq,m',o⟩:=x;simp only[oG,oC,yX]at hm;obtain⟨⟨rfl,hq,rfl,ho⟩,hm⟩:=hm;simp only[uQ,bW]at hB;obtain⟨⟨⟨hs,hr⟩,hv⟩,hB⟩:=hB;have hr:Region.ready .any ops (bM listed q)=[m]:=zK;have rE:=Dn.setL q hD hs;have rF:(bM listed q).size=ops.size:=(ww q listed).trans hz;have hmr:m∈Region.ready .any ops (bM listed q):=Ji
   have hb:=Kj (fuel:=iY p fin+1) (mt:=mt) (mv:=mv) (C:=C) hsel hQ q lq listed a hq hs hz hD (by
    have e1:∀a',(∀w',C w'→wpList P ops (dU Q λa'' w''=>dV (mt.contains m) C w'' e∧pu P ops mt Q xs lf a'' (aO e w'')) [o] a' w')→kM P ops mt mv Q (iY p fin+1) (bM listed q) a' C:=by
     intro a' hl;refine⟨λh0=>Le,λj hj w' hw'=>?_⟩;rw[hr]at hj;obtain rfl:j=m:=Ls;have h1:=hl w' hw'
     have key:∀a2 w2,dU Q (λa'' w''=>dV (mt.contains j) C w'' e∧pu P ops mt Q xs lf a'' (aO e w'')) .normal a2 w2→∃C',C' w2∧(j∈mt∨∀w,C' w→C w)∧(j∈mv∨C'=C)∧kM P ops mt mv Q (iY p fin) (bR (bM listed q) j) a2 C':=by
      rintro a2 w2 ⟨h2,h3⟩;exact⟨aO e w2,Qw e w2,h2.imp aj id,.inl WM,alH hsel hQ fin lf hf p xs _ _ _ hm hB Dz (rE.set hmr) h3⟩
     unfold wpOp;simp only[ho];simp only[wpList]at h1;by_cases hw:Region.wanted o (yielded ops a'.tmps)=true
     ·rw[aG hw]at h1 ⊢;rcases h1 with h1|⟨h1,h2⟩
      ·exact .inl (Uz (λa2 w2 h=>key a2 w2 h) (aFJ (Q:=Q) (λ_ _ _ h=>h) (λ⟨x,y,h⟩=>⟨x,y,h⟩) h1))
      ·exact .inr ⟨h1,let ⟨x,y,h⟩:=h2;⟨x,y,h⟩⟩
     ·rw[aD hw]at h1 ⊢;exact key _ _ h1
    have e2:∀(l:List Oper) (a:Act),wpQuiet P ops C (λa'=>∀w',C w'→wpList P ops (dU Q λa'' w''=>dV (mt.contains m) C w'' e∧pu P ops mt Q xs lf a'' (aO e w'')) [o] a' w') l a→wpQuiet P ops C (λa'=>kM P ops mt mv Q (iY p fin+1) (bM listed q) a' C) l a:=by
     intro l
     induction l with
     |nil=>exact λa h=>e1 a h
     |cons x l ih=>
      intro a h;unfold wpQuiet at h ⊢;split
      ·rename_i hw;rw[aG hw]at h;exact MF ih h
      ·rename_i hw;rw[aD hw]at h;exact ih _ h
    exact e2 lq a h)
   have:iY ((e,q,m)::p) fin=iY p fin+1+q.length:=rfl;rw[this];exact hb
theorem anQ:∀(fuel:Nat) (listed:Array Bool) (a:Act) (w:World),wpAny P .any ops Q fuel listed a w→wpAny P .any ops Q (fuel+1) listed a w
 |0,_,_,_,h=>⟨λ_=>h.2,λi hi=>acQ⟩
 |fuel+1,_,_,_,h=>⟨h.1,λi hi=>Jw (λa w hk=>anQ fuel _ a w hk) (h.2 i hi)⟩
theorem Xo{n m:Nat}(h:n≤m){w:World}(k:wpAny P .any ops Q n listed a w):wpAny P .any ops Q m listed a w:=by
 induction h with
 |refl=>exact k
 |step _ ih=>exact anQ _ _ _ _ ih
def eX:List Oper→Nat→Option Oper
 |[],_=>none
 |x::_,0=>some x
 |_::l,i+1=>eX l i
theorem MN:∀(l:List Oper) (i:Nat),eX l i=l.toArray[i]?
 |[],i=>by simp[eX]
 |x::l,0=>by simp[eX]
 |x::l,i+1=>by rw[eX,MN l i];simp
theorem anS{l:List Oper}{w:World}(mt mv:List Nat)(e0:Nat)(pre:List Nat)(p:Az)(fin:List Nat)(l0:List Oper)(lp:List (Nat×List Oper×Nat×Oper))(lf:List Oper)
  (hB:(Region.noSelect l.toArray&&oZ l.toArray pre (Array.replicate l.toArray.size false)&&uQ l.toArray mt mv p fin (bM (Array.replicate l.toArray.size false) pre)&&decide (iY p fin+pre.length≤l.toArray.size))=true)
  (h0:pre.map (eX l)=l0.map some) (hp:p.map (λx=>(x.1,x.2.1.map (eX l),x.2.2,eX l x.2.2))=lp.map (λx=>(x.1,x.2.1.map some,x.2.2.1,some x.2.2.2))) (hf:fin.map (eX l)=lf.map some)
  (hQ:∀c a d v w,Q (.panic c) (a.put d v) w→Q (.panic c) a w) (h:wpQuiet P l.toArray (λ_=>True) (λa'=>pu P l.toArray mt Q lp lf a' (aO (e0+1) w)) l0 a):wpAny P .any l.toArray Q l.toArray.size (Array.replicate l.toArray.size false) a w.drew:=by
 have ha:eX l=λi=>l.toArray[i]?:=funext (MN l);rw[ha]at h0 hp hf;simp only[bW,dG]at hB
 have hw:aO (e0+1) w w.drew:=by
  cases e0
  ·exact⟨1,rfl⟩
  ·exact CB.iff.2 ⟨rfl,rfl,rfl,aV _,λ_ _=>rfl⟩
 have hD:Dn l.toArray (Array.replicate l.toArray.size false):=by
  intro k o ho hk;have:k<l.toArray.size:=(nu.1 ho).1;simp[Array.getD]at hk this;omega
 have key:∀(ll:List Oper) (a:Act),wpQuiet P l.toArray (λ_=>True) (λa'=>pu P l.toArray mt Q lp lf a' (aO (e0+1) w)) ll a→wpQuiet P l.toArray (λ_=>True) (λa'=>kM P l.toArray mt mv Q (iY p fin) (bM (Array.replicate l.toArray.size false) pre) a' (aO (e0+1) w)) ll a:=by
  intro ll
  induction ll with
  |nil=>exact λa h=>alH hB.1.1.1 hQ fin lf hf p lp _ a _ hp hB.1.2 ((ww _ _).trans aj) (Dn.setL0 pre hD hB.1.1.2) h
  |cons x ll ih=>
   intro a h;unfold wpQuiet at h ⊢;split
   ·rename_i hw;rw[aG hw]at h;exact MF ih h
   ·rename_i hw;rw[aD hw]at h;exact ih _ h
 exact Xo hB.2 (adY (mt:=mt) (mv:=mv) _ _ a _ _ hw (UG hB.1.1.1 hQ pre l0 _ a h0 hB.1.1.2 aj hD (key l0 a h)))
theorem iQ{l:List Oper}{w:World}(mt mv:List Nat)(e0:Nat)(pre:List Nat)(p:Az)(fin:List Nat)(l0:List Oper)(lp:List (Nat×List Oper×Nat×Oper))(lf:List Oper)(h:wpQuiet P l.toArray (λ_=>True) (λa'=>pu P l.toArray mt Q lp lf a' (aO (e0+1) w)) l0 a)(hm:P.follows .mixedOrders=true:=by kernel_rfl)(hB:(Region.noSelect l.toArray&&oZ l.toArray pre (Array.replicate l.toArray.size false)&&uQ l.toArray mt mv p fin (bM (Array.replicate l.toArray.size false) pre)&&decide (iY p fin+pre.length≤l.toArray.size))=true:=by kernel_rfl)(h0:pre.map (eX l)=l0.map some:=by rfl)(hp:p.map (λx=>(x.1,x.2.1.map (eX l),x.2.2,eX l x.2.2))=lp.map (λx=>(x.1,x.2.1.map some,x.2.2.1,some x.2.2.2)):=by rfl)(hf:fin.map (eX l)=lf.map some:=by rfl)(hQ:∀c a d v w,Q (.panic c) (a.put d v) w→Q (.panic c) a w:=by intro _ _ d _ _ h;cases d<;>exact h):(Code.region id l.toArray true).wp P Q a w:=
 an2 hm (anS mt mv e0 pre p fin l0 lp lf hB h0 hp hf hQ h)
section
variable {e m:Nat} {lq fin:List Oper} {o:Oper} {rest:List (Nat×List Oper×Nat×Oper)} {a:Act} {b:World}
theorem rW(h:wpList P ops (dU Q λa'' w''=>dV (mt.contains m) (aO 0 b) w'' e∧pu P ops mt Q rest fin a'' (aO e w'')) [o] a b):pu P ops mt Q ((e,[],m,o)::rest) fin a (aO 0 b):=λw' hw=>Ij
theorem iP(h:wpQuiet P ops (λw'=>∃n,w'=b.drewN n) (λa'=>∀n,wpList P ops (dU Q λa'' w''=>dV (mt.contains m) (aO 1 b) w'' e∧pu P ops mt Q rest fin a'' (aO e w'')) [o] a' (b.drewN n)) lq a):pu P ops mt Q ((e,lq,m,o)::rest) fin a (aO 1 b):=by
 have e1:(λa'=>∀n,wpList P ops (dU Q λa'' w''=>dV (mt.contains m) (aO 1 b) w'' e∧pu P ops mt Q rest fin a'' (aO e w'')) [o] a' (b.drewN n))=(λa'=>∀w',aO 1 b w'→wpList P ops (dU Q λa'' w''=>dV (mt.contains m) (aO 1 b) w'' e∧pu P ops mt Q rest fin a'' (aO e w'')) [o] a' w'):=by
  funext a'
  exact propext ⟨λh w' ⟨n,hn⟩=>hn ▸ h n,λh n=>h _ ⟨n,rfl⟩⟩
 rw[e1]at h;exact h
theorem ku(h:wpQuiet P ops (λw'=>∃p:Regrown,w'=Sort.grow (redrawn b p.d) p.os) (λa'=>∀w',BL b w'→wpList P ops (dU Q λa'' w''=>dV (mt.contains m) (aO 2 b) w'' e∧pu P ops mt Q rest fin a'' (aO e w'')) [o] a' w') lq a):pu P ops mt Q ((e,lq,m,o)::rest) fin a (aO 2 b):=by
 have e1:(λa'=>∀w',BL b w'→wpList P ops (dU Q λa'' w''=>dV (mt.contains m) (aO 2 b) w'' e∧pu P ops mt Q rest fin a'' (aO e w'')) [o] a' w')=(λa'=>∀w',aO 2 b w'→wpList P ops (dU Q λa'' w''=>dV (mt.contains m) (aO 2 b) w'' e∧pu P ops mt Q rest fin a'' (aO e w'')) [o] a' w'):=by
  funext a'
  exact propext ⟨λh w' hw=>h w' (CB.iff.1 hw),λh w' hw=>h w' (CB.iff.2 hw)⟩
 rw[e1]at h;exact h
theorem qy(h:wpQuiet P ops (λw'=>∃n,w'=b.drewN n) (λa'=>∀n,Q .normal a' (b.drewN n)) fin a):pu P ops mt Q [] fin a (aO 1 b):=by
 have e1:(λa'=>∀n,Q .normal a' (b.drewN n))=(λa'=>∀w',aO 1 b w'→Q .normal a' w'):=by
  funext a'
  exact propext ⟨λh w' ⟨n,hn⟩=>hn ▸ h n,λh n=>h _ ⟨n,rfl⟩⟩
 rw[e1]at h;exact h
theorem Xv(h:wpQuiet P ops (λw'=>∃p:Regrown,w'=Sort.grow (redrawn b p.d) p.os) (λa'=>∀w',BL b w'→Q .normal a' w') fin a):pu P ops mt Q [] fin a (aO 2 b):=by
 have e1:(λa'=>∀w',BL b w'→Q .normal a' w')=(λa'=>∀w',aO 2 b w'→Q .normal a' w'):=by
  funext a'
  exact propext ⟨λh w' hw=>h w' (CB.iff.1 hw),λh w' hw=>h w' (CB.iff.2 hw)⟩
 rw[e1]at h;exact h
end
theorem jl{w:World}(h:Q .normal a w):pu P ops mt Q [] [] a (aO 0 w):=λw' hw=>Ij
theorem dZ{b w:World}{e:Nat}{bb:Bool}(hu:Up b w)(h:K a w):dU Q (λa'' w''=>dV bb (aO (c+2) b) w'' e∧K a'' w'') .normal a w:=
 ⟨.inr λw' hw=>CB.iff.2 (hu.tr (Io hw)),h⟩
theorem bS{w:World}{e:Nat}(bb:Bool)(hb:bb=true)(h:K a w):dU Q (λa'' w''=>dV bb C w'' e∧K a'' w'') .normal a w:=⟨.inl hb,h⟩
end
theorem rf{p:Prop}(h:p:=by repeat(first|exact aB _ _|assumption|refine Bl.alloc ?_ _|refine Bl.setCell ?_ (by simp;try omega) _|refine Bl.drewN ?_ _|refine Bl.call ?_ (by assumption)|fail)):p:=h
theorem ul{p:Prop}(h:p:=by repeat(first|with_reducible assumption|with_reducible exact aB _ _|with_reducible refine Bl.setCell ?_ (by simp;try omega) _|with_reducible refine Bl.alloc ?_ _|with_reducible refine Bl.drewN ?_ _|with_reducible refine Bl.call ?_ (by with_reducible assumption)|fail)):p:=h
section
variable {P:Program} {ops:Array Oper} {Q:Exit→Act→World→Prop} {mt mv:List Nat}
inductive PT where
 |fin (q:List Nat)
 |one (e:Nat) (q:List Nat) (m:Nat) (r:PT)
 |two (q:List Nat) (e1 m1:Nat) (r1:PT) (e2 m2:Nat) (r2:PT)
 |pur (q:List Nat) (r:PT)
 |three (q:List Nat) (e1 m1:Nat) (r1:PT) (e2 m2:Nat) (r2:PT) (e3 m3:Nat) (r3:PT)
inductive PO where
 |fin (q:List Oper)
 |one (e:Nat) (q:List Oper) (m:Nat) (o:Oper) (r:PO)
 |two (q:List Oper) (e1 m1:Nat) (o1:Oper) (r1:PO) (e2 m2:Nat) (o2:Oper) (r2:PO)
 |pur (q:List Oper) (r:PO)
 |three (q:List Oper) (e1 m1:Nat) (o1:Oper) (r1:PO) (e2 m2:Nat) (o2:Oper) (r2:PO) (e3 m3:Nat) (o3:Oper) (r3:PO)
def nT(ops:Array Oper)(mt mv:List Nat):PT→Array Bool→Bool
 |.fin q,l=>xu ops mt mv q l&&(Region.ready .any ops (bM l q)).isEmpty
 |.one _ q m r,l=>xu ops mt mv q l&&(Region.ready .any ops (bM l q)==[m])&&mv.contains m&&nT ops mt mv r (bR (bM l q) m)
 |.two q _ m1 r1 _ m2 r2,l=>xu ops mt mv q l&&(Region.ready .any ops (bM l q)==[m1,m2])&&mv.contains m1&&mv.contains m2&&nT ops mt mv r1 (bR (bM l q) m1)&&nT ops mt mv r2 (bR (bM l q) m2)
 |.pur q r,l=>oZ ops q l&&nT ops mt mv r (bM l q)
 |.three q _ m1 r1 _ m2 r2 _ m3 r3,l=>xu ops mt mv q l&&(Region.ready .any ops (bM l q)==[m1,m2,m3])&&mv.contains m1&&mv.contains m2&&mv.contains m3&&nT ops mt mv r1 (bR (bM l q) m1)&&nT ops mt mv r2 (bR (bM l q) m2)&&nT ops mt mv r3 (bR (bM l q) m3)
def yF(f:Nat→Option Oper):PT→PO→Prop
 |.fin q,.fin l=>q.map f=l.map some
 |.one e q m r,.one e' l m' o r'=>e=e'∧m=m'∧q.map f=l.map some∧f m=some o∧yF f r r'
 |.two q e1 m1 r1 e2 m2 r2,.two l Iq m1' o1 r1' e2' m2' o2 r2'=>q.map f=l.map some∧(e1=Iq∧m1=m1'∧f m1=some o1∧yF f r1 r1')∧e2=e2'∧m2=m2'∧f m2=some o2∧yF f r2 r2'
 |.pur q r,.pur l r'=>q.map f=l.map some∧yF f r r'
 |.three q e1 m1 r1 e2 m2 r2 e3 m3 r3,.three l Iq m1' o1 r1' e2' m2' o2 r2' e3' m3' o3 r3'=>q.map f=l.map some∧(e1=Iq∧m1=m1'∧f m1=some o1∧yF f r1 r1')∧(e2=e2'∧m2=m2'∧f m2=some o2∧yF f r2 r2')∧e3=e3'∧m3=m3'∧f m3=some o3∧yF f r3 r3'
 |_,_=>False
def iJ(P:Program)(ops:Array Oper)(mt:List Nat)(Q:Exit→Act→World→Prop):PO→Act→(World→Prop)→Prop
 |.fin l,a,C=>wpQuiet P ops C (λa'=>∀w',C w'→Q .normal a' w') l a
 |.one e lq m o r,a,C=>wpQuiet P ops C (λa'=>∀w',C w'→wpList P ops (dU Q λa'' w''=>dV (mt.contains m) C w'' e∧iJ P ops mt Q r a'' (aO e w'')) [o] a' w') lq a
 |.two lq e1 m1 o1 r1 e2 m2 o2 r2,a,C=>wpQuiet P ops C (λa'=>(∀w',C w'→wpList P ops (dU Q λa'' w''=>dV (mt.contains m1) C w'' e1∧iJ P ops mt Q r1 a'' (aO e1 w'')) [o1] a' w')∧∀w',C w'→wpList P ops (dU Q λa'' w''=>dV (mt.contains m2) C w'' e2∧iJ P ops mt Q r2 a'' (aO e2 w'')) [o2] a' w') lq a
 |.three lq e1 m1 o1 r1 e2 m2 o2 r2 e3 m3 o3 r3,a,C=>wpQuiet P ops C (λa'=>(∀w',C w'→wpList P ops (dU Q λa'' w''=>dV (mt.contains m1) C w'' e1∧iJ P ops mt Q r1 a'' (aO e1 w'')) [o1] a' w')∧(∀w',C w'→wpList P ops (dU Q λa'' w''=>dV (mt.contains m2) C w'' e2∧iJ P ops mt Q r2 a'' (aO e2 w'')) [o2] a' w')∧(∀w',C w'→wpList P ops (dU Q λa'' w''=>dV (mt.contains m3) C w'' e3∧iJ P ops mt Q r3 a'' (aO e3 w'')) [o3] a' w')) lq a
 |.pur l r,a,C=>wpQuiet P ops (λ_=>True) (λa'=>iJ P ops mt Q r a' C) l a
def kr:PT→Nat
 |.fin q=>q.length
 |.one _ q _ r=>kr r+1+q.length
 |.two q _ _ r1 _ _ r2=>max (kr r1) (kr r2)+1+q.length
 |.pur q r=>kr r+q.length
 |.three q _ _ r1 _ _ r2 _ _ r3=>max (max (kr r1) (kr r2)) (kr r3)+1+q.length
theorem anN:∀(fuel:Nat) (listed:Array Bool) (a:Act) (C:World→Prop),kM P ops mt mv Q fuel listed a C→kM P ops mt mv Q (fuel+1) listed a C
 |0,_,_,_,h=>⟨λ_=>h.2,λi hi=>acQ⟩
 |fuel+1,_,_,_,h=>⟨h.1,λi hi w' hw=>Jw (λa w ⟨C',h1,h2,h3,hk⟩=>⟨C',h1,h2,h3,anN fuel _ a C' hk⟩) (h.2 i hi w' hw)⟩
theorem SI{n m:Nat}(h:n≤m)(k:kM P ops mt mv Q n listed a C):kM P ops mt mv Q m listed a C:=by
 induction h with
 |refl=>exact k
 |step _ ih=>exact anN _ _ _ _ ih
theorem uW{K K':Act→Prop}(h:∀a,K a→K' a):∀(l:List Oper) (a:Act),wpQuiet P ops C K l a→wpQuiet P ops C K' l a:=by
 intro l
 induction l with
 |nil=>exact λa k=>h a k
 |cons x l ih=>
  intro a k;unfold wpQuiet at k ⊢;split
  ·rename_i hw;rw[aG hw]at k;exact MF ih k
  ·rename_i hw;rw[aD hw]at k;exact ih _ k
theorem ND{e m:Nat}{o:Oper}{K:Act→(World→Prop)→Prop}{K':Act→(World→Prop)→Prop}{w:World}(ho:ops[m]?=some o)(hv:mv.contains m=true)(hk:∀a w,K a (aO e w)→K' a (aO e w))
  (h1:wpList P ops (dU Q λa'' w''=>dV (mt.contains m) C w'' e∧K a'' (aO e w'')) [o] a w) :
  wpOp P ops Q m (λa' w''=>∃C',C' w''∧(m∈mt∨∀w,C' w→C w)∧(m∈mv∨C'=C)∧K' a' C') a w:=by
 have key:∀a2 w2,dU Q (λa'' w''=>dV (mt.contains m) C w'' e∧K a'' (aO e w'')) .normal a2 w2→∃C',C' w2∧(m∈mt∨∀w,C' w→C w)∧(m∈mv∨C'=C)∧K' a2 C':=by
  rintro a2 w2 ⟨h2,h3⟩;exact⟨aO e w2,Qw e w2,h2.imp aj id,.inl WM,hk _ _ h3⟩
 unfold wpOp;simp only[ho];simp only[wpList]at h1;by_cases hw:Region.wanted o (yielded ops a.tmps)=true
 ·rw[aG hw]at h1 ⊢;rcases h1 with h1|⟨h1,h2⟩
  ·exact .inl (Uz (λa2 w2 h=>key a2 w2 h) (aFJ (Q:=Q) (λ_ _ _ h=>h) (λ⟨x,y,h⟩=>⟨x,y,h⟩) h1))
  ·exact .inr ⟨h1,let ⟨x,y,h⟩:=h2;⟨x,y,h⟩⟩
 ·rw[aD hw]at h1 ⊢;exact key _ _ h1
theorem Jq(hsel:Region.noSelect ops=true)(hQ:∀c a d v w,Q (.panic c) (a.put d v) w→Q (.panic c) a w):∀(p:PT) (po:PO) (listed:Array Bool) (a:Act) (C:World→Prop),
  yF (λi=>ops[i]?) p po→nT ops mt mv p listed=true→listed.size=ops.size→Dn ops listed→iJ P ops mt Q po a C→kM P ops mt mv Q (kr p) listed a C
 |.fin q,.fin l,listed,a,C,hm,hB,hz,hD,h=>by
  simp only[nT,bW]at hB;have:=Kj (fuel:=0) (mt:=mt) (mv:=mv) (C:=C) hsel hQ q l listed a hm hB.1 hz hD (uW (λa' h=>show kM P ops mt mv Q 0 (bM listed q) a' C from⟨WL,h⟩) l a h);simpa[kr]using this
 |.one e q m r,.one e' l m' o r',listed,a,C,hm,hB,hz,hD,h=>by
  obtain⟨rfl,rfl,hq,ho,hr'⟩:=hm;simp only[nT,bW]at hB;obtain⟨⟨⟨hs,hr⟩,hv⟩,hB⟩:=hB;have hr:Region.ready .any ops (bM listed q)=[m]:=zK;have rE:=Dn.setL q hD hs;have rF:(bM listed q).size=ops.size:=(ww q listed).trans hz;have hmr:m∈Region.ready .any ops (bM listed q):=Ji;refine Kj (fuel:=kr r+1) (mt:=mt) (mv:=mv) (C:=C) hsel hQ q l listed a hq hs hz hD (uW (λa' hl=>?_) l a h);refine⟨λh0=>Le,λj hj w' hw'=>?_⟩;rw[hr]at hj;obtain rfl:j=m:=Ls;exact ND (K:=λa C=>iJ P ops mt Q r' a C) ho hv (λa w h=>Jq hsel hQ r r' _ a _ hr' hB Dz (rE.set hmr) h) (hl w' hw')
 |.two q e1 m1 r1 e2 m2 r2,.two l Iq m1' o1 r1' e2' m2' o2 r2',listed,a,C,hm,hB,hz,hD,h=>by
  obtain⟨hq,⟨rfl,rfl,ho1,hr1⟩,rfl,rfl,ho2,hr2⟩:=hm;simp only[nT,bW]at hB;obtain⟨⟨⟨⟨⟨hs,hr⟩,hv1⟩,hv2⟩,hB1⟩,hB2⟩:=hB;have hr:Region.ready .any ops (bM listed q)=[m1,m2]:=zK;have rE:=Dn.setL q hD hs;have rF:(bM listed q).size=ops.size:=(ww q listed).trans hz;have abz:m1∈Region.ready .any ops (bM listed q):=Ji;have abA:m2∈Region.ready .any ops (bM listed q):=Ji;refine Kj (fuel:=max (kr r1) (kr r2)+1) (mt:=mt) (mv:=mv) (C:=C) hsel hQ q l listed a hq hs hz hD (uW (λa' hl=>?_) l a h);refine⟨λh0=>Le,λj hj w' hw'=>?_⟩;rw[hr]at hj;rcases(by simpa using hj:j=m1∨j=m2)with rfl|rfl
  ·exact ND (K:=λa C=>iJ P ops mt Q r1' a C) ho1 hv1 (λa w h=>SI (Uv _ _) (Jq hsel hQ r1 r1' _ a _ hr1 hB1 Dz (rE.set abz) h)) (hl.1 w' hw')
  ·exact ND (K:=λa C=>iJ P ops mt Q r2' a C) ho2 hv2 (λa w h=>SI (Zz _ _) (Jq hsel hQ r2 r2' _ a _ hr2 hB2 Dz (rE.set abA) h)) (hl.2 w' hw')
 |.pur q r,.pur l r',listed,a,C,hm,hB,hz,hD,h=>by
  simp only[nT,bW]at hB;exact UG (fuel:=kr r) hsel hQ q l listed a hm.1 hB.1 hz hD (uW (λa' hl=>Jq hsel hQ r r' _ a' _ hm.2 hB.2 ((ww q listed).trans hz) (Dn.setL0 q hD hB.1) hl) l a h)
 |.three q e1 m1 r1 e2 m2 r2 e3 m3 r3,.three l Iq m1' o1 r1' e2' m2' o2 r2' e3' m3' o3 r3',listed,a,C,hm,hB,hz,hD,h=>by
  obtain⟨hq,⟨rfl,rfl,ho1,hr1⟩,⟨rfl,rfl,ho2,hr2⟩,rfl,rfl,ho3,hr3⟩:=hm;simp only[nT,bW]at hB;obtain⟨⟨⟨⟨⟨⟨⟨hs,hr⟩,hv1⟩,hv2⟩,hv3⟩,hB1⟩,hB2⟩,hB3⟩:=hB;have hr:Region.ready .any ops (bM listed q)=[m1,m2,m3]:=zK;have rE:=Dn.setL q hD hs;have rF:(bM listed q).size=ops.size:=(ww q listed).trans hz;have hmr:∀m,m∈[m1,m2,m3]→m∈Region.ready .any ops (bM listed q):=by rw[hr];exact λ_ h=>h
  refine Kj (fuel:=max (max (kr r1) (kr r2)) (kr r3)+1) (mt:=mt) (mv:=mv) (C:=C) hsel hQ q l listed a hq hs hz hD (uW (λa' hl=>?_) l a h);refine⟨λh0=>Le,λj hj w' hw'=>?_⟩;rw[hr]at hj;rcases(by simpa using hj:j=m1∨j=m2∨j=m3)with rfl|rfl|rfl
  ·exact ND (K:=λa C=>iJ P ops mt Q r1' a C) ho1 hv1 (λa w h=>SI (fK (Uv _ _) (Uv _ _)) (Jq hsel hQ r1 r1' _ a _ hr1 hB1 Dz (rE.set (hmr _ aj)) h)) (hl.1 w' hw')
  ·exact ND (K:=λa C=>iJ P ops mt Q r2' a C) ho2 hv2 (λa w h=>SI (fK (Zz _ _) (Uv _ _)) (Jq hsel hQ r2 r2' _ a _ hr2 hB2 Dz (rE.set (hmr _ aj)) h)) (hl.2.1 w' hw')
  ·exact ND (K:=λa C=>iJ P ops mt Q r3' a C) ho3 hv3 (λa w h=>SI (Zz _ _) (Jq hsel hQ r3 r3' _ a _ hr3 hB3 Dz (rE.set (hmr _ aj)) h)) (hl.2.2 w' hw')
 |.three ..,.fin _,_,_,_,hm,_,_,_,_=>hm.elim
 |.three ..,.one ..,_,_,_,hm,_,_,_,_=>hm.elim
 |.three ..,.two ..,_,_,_,hm,_,_,_,_=>hm.elim
 |.three ..,.pur ..,_,_,_,hm,_,_,_,_=>hm.elim
 |.fin _,.three ..,_,_,_,hm,_,_,_,_=>hm.elim
 |.one ..,.three ..,_,_,_,hm,_,_,_,_=>hm.elim
 |.two ..,.three ..,_,_,_,hm,_,_,_,_=>hm.elim
 |.pur ..,.three ..,_,_,_,hm,_,_,_,_=>hm.elim
 |.pur ..,.fin _,_,_,_,hm,_,_,_,_=>hm.elim
 |.pur ..,.one ..,_,_,_,hm,_,_,_,_=>hm.elim
 |.pur ..,.two ..,_,_,_,hm,_,_,_,_=>hm.elim
 |.fin _,.pur ..,_,_,_,hm,_,_,_,_=>hm.elim
 |.one ..,.pur ..,_,_,_,hm,_,_,_,_=>hm.elim
 |.two ..,.pur ..,_,_,_,hm,_,_,_,_=>hm.elim
 |.fin _,.one ..,_,_,_,hm,_,_,_,_=>hm.elim
 |.fin _,.two ..,_,_,_,hm,_,_,_,_=>hm.elim
 |.one ..,.fin _,_,_,_,hm,_,_,_,_=>hm.elim
 |.one ..,.two ..,_,_,_,hm,_,_,_,_=>hm.elim
 |.two ..,.fin _,_,_,_,hm,_,_,_,_=>hm.elim
 |.two ..,.one ..,_,_,_,hm,_,_,_,_=>hm.elim
theorem anT{l:List Oper}{w:World}(mt mv:List Nat)(e0:Nat)(pre:List Nat)(p:PT)(l0:List Oper)(po:PO)
  (hB:(Region.noSelect l.toArray&&oZ l.toArray pre (Array.replicate l.toArray.size false)&&nT l.toArray mt mv p (bM (Array.replicate l.toArray.size false) pre)&&decide (kr p+pre.length≤l.toArray.size))=true)
  (h0:pre.map (eX l)=l0.map some) (hp:yF (eX l) p po)
  (hQ:∀c a d v w,Q (.panic c) (a.put d v) w→Q (.panic c) a w) (h:wpQuiet P l.toArray (λ_=>True) (λa'=>iJ P l.toArray mt Q po a' (aO (e0+1) w)) l0 a):wpAny P .any l.toArray Q l.toArray.size (Array.replicate l.toArray.size false) a w.drew:=by
 have ha:eX l=λi=>l.toArray[i]?:=funext (MN l);rw[ha]at h0 hp;simp only[bW,dG]at hB
 have hw:aO (e0+1) w w.drew:=by
  cases e0
  ·exact⟨1,rfl⟩
  ·exact CB.iff.2 ⟨rfl,rfl,rfl,aV _,λ_ _=>rfl⟩
 have hD:Dn l.toArray (Array.replicate l.toArray.size false):=by
  intro k o ho hk;have:k<l.toArray.size:=(nu.1 ho).1;simp[Array.getD]at hk this;omega
 have key:=uW (C:=λ_=>True) (λa' h=>show kM P l.toArray mt mv Q (kr p) (bM (Array.replicate l.toArray.size false) pre) a' (aO (e0+1) w)from Jq hB.1.1.1 hQ p po _ a' _ hp hB.1.2 ((ww _ _).trans aj) (Dn.setL0 pre hD hB.1.1.2) h) l0 a h;exact Xo hB.2 (adY (mt:=mt) (mv:=mv) _ _ a _ _ hw (UG hB.1.1.1 hQ pre l0 _ a h0 hB.1.1.2 aj hD key))
theorem an3{l:List Oper}{w:World}(mt mv:List Nat)(e0:Nat)(pre:List Nat)(p:PT)(l0:List Oper)(po:PO)(h:wpQuiet P l.toArray (λ_=>True) (λa'=>iJ P l.toArray mt Q po a' (aO (e0+1) w)) l0 a)(hm:P.follows .mixedOrders=true:=by kernel_rfl)(hB:(Region.noSelect l.toArray&&oZ l.toArray pre (Array.replicate l.toArray.size false)&&nT l.toArray mt mv p (bM (Array.replicate l.toArray.size false) pre)&&decide (kr p+pre.length≤l.toArray.size))=true:=by kernel_rfl)(h0:pre.map (eX l)=l0.map some:=by rfl)(hp:yF (eX l) p po:=by repeat' (first|rfl|apply And.intro))(hQ:∀c a d v w,Q (.panic c) (a.put d v) w→Q (.panic c) a w:=by intro _ _ d _ _ h;cases d<;>exact h):(Code.region id l.toArray true).wp P Q a w:=
 an2 hm (anT mt mv e0 pre p l0 po hB h0 hp hQ h)
section
variable {e m e1 m1 e2 m2 e3 m3:Nat} {lq:List Oper} {o o1 o2 o3:Oper} {r r1 r2 r3:PO} {a:Act} {b:World}
theorem wG(h:wpList P ops (dU Q λa'' w''=>dV (mt.contains m) (aO 0 b) w'' e∧iJ P ops mt Q r a'' (aO e w'')) [o] a b):iJ P ops mt Q (.one e [] m o r) a (aO 0 b):=λw' hw=>Ij
theorem adL(h:wpQuiet P ops (λw'=>∃n,w'=b.drewN n) (λa'=>∀n,wpList P ops (dU Q λa'' w''=>dV (mt.contains m) (aO 1 b) w'' e∧iJ P ops mt Q r a'' (aO e w'')) [o] a' (b.drewN n)) lq a):iJ P ops mt Q (.one e lq m o r) a (aO 1 b):=
 uW (C:=λw'=>∃n,w'=b.drewN n) (λ_ h w' ⟨n,hn⟩=>hn ▸ h n) lq a h
theorem uV(h:wpQuiet P ops (λw'=>∃p:Regrown,w'=Sort.grow (redrawn b p.d) p.os) (λa'=>∀w',BL b w'→wpList P ops (dU Q λa'' w''=>dV (mt.contains m) (aO 2 b) w'' e∧iJ P ops mt Q r a'' (aO e w'')) [o] a' w') lq a):iJ P ops mt Q (.one e lq m o r) a (aO 2 b):=
 uW (C:=λw'=>∃p:Regrown,w'=Sort.grow (redrawn b p.d) p.os) (λ_ h w' hw=>h w' (CB.iff.1 hw)) lq a h
theorem Sy(h:wpQuiet P ops (λw'=>∃p:Regrown,w'=Sort.grow (redrawn b p.d) p.os) (λa'=>(∀w',BL b w'→wpList P ops (dU Q λa'' w''=>dV (mt.contains m1) (aO 2 b) w'' e1∧iJ P ops mt Q r1 a'' (aO e1 w'')) [o1] a' w')∧∀w',BL b w'→wpList P ops (dU Q λa'' w''=>dV (mt.contains m2) (aO 2 b) w'' e2∧iJ P ops mt Q r2 a'' (aO e2 w'')) [o2] a' w') lq a):iJ P ops mt Q (.two lq e1 m1 o1 r1 e2 m2 o2 r2) a (aO 2 b):=
 uW (C:=λw'=>∃p:Regrown,w'=Sort.grow (redrawn b p.d) p.os) (λ_ h=>⟨λw' hw=>h.1 w' (CB.iff.1 hw),λw' hw=>h.2 w' (CB.iff.1 hw)⟩) lq a h
theorem Xb(h:wpQuiet P ops (λw'=>∃p:Regrown,w'=Sort.grow (redrawn b p.d) p.os) (λa'=>(∀w',BL b w'→wpList P ops (dU Q λa'' w''=>dV (mt.contains m1) (aO 2 b) w'' e1∧iJ P ops mt Q r1 a'' (aO e1 w'')) [o1] a' w')∧(∀w',BL b w'→wpList P ops (dU Q λa'' w''=>dV (mt.contains m2) (aO 2 b) w'' e2∧iJ P ops mt Q r2 a'' (aO e2 w'')) [o2] a' w')∧(∀w',BL b w'→wpList P ops (dU Q λa'' w''=>dV (mt.contains m3) (aO 2 b) w'' e3∧iJ P ops mt Q r3 a'' (aO e3 w'')) [o3] a' w')) lq a):iJ P ops mt Q (.three lq e1 m1 o1 r1 e2 m2 o2 r2 e3 m3 o3 r3) a (aO 2 b):=
 uW (C:=λw'=>∃p:Regrown,w'=Sort.grow (redrawn b p.d) p.os) (λ_ h=>⟨λw' hw=>h.1 w' (CB.iff.1 hw),λw' hw=>h.2.1 w' (CB.iff.1 hw),λw' hw=>h.2.2 w' (CB.iff.1 hw)⟩) lq a h
theorem LG(h:wpQuiet P ops (λ_=>True) (λa'=>iJ P ops mt Q r a' C) lq a):iJ P ops mt Q (.pur lq r) a C:=h
theorem Xa(h:wpQuiet P ops (λw'=>∃n,w'=b.drewN n) (λa'=>∀n,Q .normal a' (b.drewN n)) lq a):iJ P ops mt Q (.fin lq) a (aO 1 b):=
 uW (C:=λw'=>∃n,w'=b.drewN n) (λ_ h w' ⟨n,hn⟩=>hn ▸ h n) lq a h
end
theorem LF{w:World}(h:Q .normal a w):iJ P ops mt Q (.fin []) a (aO 0 w):=λw' hw=>Ij
end
def oL(F:Fence):Prop:=F=Fence.wide∨∃l,F=Fence.wide.inRound l
theorem jJ:oL Fence.wide:=.inl rfl
theorem E5(l:Nat):oL (Fence.wide.inRound l):=.inr ⟨l,rfl⟩
section
variable {F:Fence} {n:Nat} {P:Program} {ops:Array Oper} {Q:Exit→Act→World→Prop}
theorem jH{f:FuncId}{args:Array Value}{w:World}{R:Ending→World→Prop}(hF:oL F)(h:Calls P f args w R):CallsIn F n P f args w R:=by
 rcases hF with rfl|⟨l,rfl⟩
 ·exact xW.2 h
 ·exact CallsIn.inRound l (xW.2 h)
theorem ayM{row:String}{args:Array Value}{w:World}{R:Value→World→Prop}(hF:oL F)(h:Rows P row args w R):RowsIn F n P row args w R:=by
 have key:RowsIn Fence.wide n P row args w R:=λc cs _=>let ⟨v,w',r,s⟩:=h c cs;⟨v,w',r,stepsIn_wide.2 s⟩
 rcases hF with rfl|⟨l,rfl⟩
 ·exact key
 ·exact key
theorem SH(hF:oL F)(f:FuncId):F.fn f:=by rcases hF with rfl|⟨l,rfl⟩<;>trivial
theorem aBH(hF:oL F):F.depth=none:=by rcases hF with rfl|⟨l,rfl⟩<;>rfl
def iI(Q:Exit→Act→World→Prop):Exit→Act→World→Prop
 |.outgrown,_,_=>False
 |e,a,w=>Q e a w
theorem acl:¬LetsOut (iI Q):=λ⟨_,_,h⟩=>h
theorem RD{e:Exit}{w:World}(h:iI Q e a w):Q e a w:=by cases e<;>first|exact h|exact h.elim
theorem alB{o:Oper}{w:World}(hF:oL F)(hd:∀c,o.op≠.defer c)(h:o.wp P a w K (iI Q)):o.wpIn F n P a w K Q:=by
 unfold Oper.wpIn;unfold Oper.wp at h;refine⟨λf _=>SH hF f,?_⟩;rw[Oper.semAt_eq _ _ _ hd];have hdp:F.depth.isSome=true→1≤n:=by rw[aBH hF];simp
 generalize (execOp a.eval o).run P w=r at *
 cases r with
 |ok x w'=>
  cases x<;>simp only[Oper.upon,Oper.uponIn]at h ⊢<;>first
   |exact h
   |exact⟨hdp,jH hF (h.mono λe w'' he=>by cases e<;>first|exact he|exact RD he|exact(acl he).elim)⟩
   |exact⟨hdp,ayM hF h⟩
 |halt x w'=>
  cases x<;>simp only[Oper.upon,Oper.uponIn]at h ⊢;exact RD h
def sK(ops:Array Oper):Bool:=ops.toList.all λo=>match o.op with|.defer _=>false|_=>true
theorem ack(h:sK ops=true){o:Oper}(ho:ops[i]?=some o)(c:Call):o.op≠.defer c:=by
 intro e;have h1:=mq.1 h o (by rw[←aee]at ho;exact qX ho);rw[e]at h1;simp at h1
theorem anW{w:World}(hF:oL F)(hn:sK ops=true)(h:wpOp P ops (iI Q) i K a w):wpOpIn F n P ops Q i K a w:=by
 unfold wpOpIn;unfold wpOp at h
 cases ho:ops[i]? with
 |none=>simp only[ho]at h ⊢;exact h
 |some o=>
  simp only[ho]at h ⊢;by_cases hw:Region.wanted o (yielded ops a.tmps)=true
  ·rw[aG hw]at h ⊢;rcases h with h|⟨_,h⟩
   ·exact alB hF (ack hn ho) h
   ·exact(acl h).elim
  ·rw[aD hw]at h ⊢;exact⟨λf _=>SH hF f,h⟩
theorem Xn{md:Region.Mode}(hF:oL F)(hn:sK ops=true):∀(fuel:Nat) (listed:Array Bool) (a:Act) (w:World),wpAny P md ops (iI Q) fuel listed a w→wpAnyIn F n P md ops Q fuel listed a w
 |0,_,_,_,h=>⟨h.1,RD h.2⟩
 |fuel+1,_,_,_,h=>⟨λe=>RD (h.1 e),λi hi=>Xr (λa w k=>Xn hF hn fuel _ a w k) (anW hF hn (h.2 i hi))⟩
theorem SN(hF:oL F):∀(l:List Oper) (_:sK l.toArray=true) (a:Act) (w:World),wpList P ops (iI Q) l a w→wpListIn F n P ops Q l a w
 |[],_,_,_,h=>RD h
 |o::l,hn,a,w,h=>by
  unfold wpListIn;unfold wpList at h
  have hn':sK l.toArray=true:=by
   simp only[sK,List.all_cons,bW]at hn ⊢;exact hn.2
  by_cases hw:Region.wanted o (yielded ops a.tmps)=true
  ·rw[aG hw]at h ⊢;rcases h with h|⟨_,h⟩
   ·exact Oper.wpIn_mono (λa w k=>SN hF l hn' a w k) (alB hF (ack hn (i:=0) aj) h)
   ·exact(acl h).elim
  ·rw[aD hw]at h ⊢;exact⟨λf _=>SH hF f,SN hF l hn' _ _ h⟩
theorem rU{l:List Oper}{w:World}(mt mv:List Nat)(e0:Nat)(pre:List Nat)(p:Az)(fin:List Nat)(l0:List Oper)(lp:List (Nat×List Oper×Nat×Oper))(lf:List Oper)(h:wpQuiet P l.toArray (λ_=>True) (λa'=>pu P l.toArray mt (iI Q) lp lf a' (aO (e0+1) w)) l0 a)(hF:oL F:=by first|exact jJ|exact E5 _)(hn:sK l.toArray=true:=by kernel_rfl)(hm:P.follows .mixedOrders=true:=by kernel_rfl)(hB:(Region.noSelect l.toArray&&oZ l.toArray pre (Array.replicate l.toArray.size false)&&uQ l.toArray mt mv p fin (bM (Array.replicate l.toArray.size false) pre)&&decide (iY p fin+pre.length≤l.toArray.size))=true:=by kernel_rfl)(h0:pre.map (eX l)=l0.map some:=by rfl)(hp:p.map (λx=>(x.1,x.2.1.map (eX l),x.2.2,eX l x.2.2))=lp.map (λx=>(x.1,x.2.1.map some,x.2.2.1,some x.2.2.2)):=by rfl)(hf:fin.map (eX l)=lf.map some:=by rfl)(hQ:∀c a d v w,Q (.panic c) (a.put d v) w→Q (.panic c) a w:=by intro _ _ d _ _ h;cases d<;>exact h):(Code.region id l.toArray true).wpIn F n P Q a w:=
 ad4 hm (Xn hF hn _ _ _ _ (anS mt mv e0 pre p fin l0 lp lf hB h0 hp hf (λc a d v w h=>hQ c a d v w h) h))
theorem LK{l:List Oper}{w:World}(mt mv:List Nat)(e0:Nat)(pre:List Nat)(p:PT)(l0:List Oper)(po:PO)(h:wpQuiet P l.toArray (λ_=>True) (λa'=>iJ P l.toArray mt (iI Q) po a' (aO (e0+1) w)) l0 a)(hF:oL F:=by first|exact jJ|exact E5 _)(hn:sK l.toArray=true:=by kernel_rfl)(hm:P.follows .mixedOrders=true:=by kernel_rfl)(hB:(Region.noSelect l.toArray&&oZ l.toArray pre (Array.replicate l.toArray.size false)&&nT l.toArray mt mv p (bM (Array.replicate l.toArray.size false) pre)&&decide (kr p+pre.length≤l.toArray.size))=true:=by kernel_rfl)(h0:pre.map (eX l)=l0.map some:=by rfl)(hp:yF (eX l) p po:=by repeat' (first|rfl|apply And.intro))(hQ:∀c a d v w,Q (.panic c) (a.put d v) w→Q (.panic c) a w:=by intro _ _ d _ _ h;cases d<;>exact h):(Code.region id l.toArray true).wpIn F n P Q a w:=
 ad4 hm (Xn hF hn _ _ _ _ (anT mt mv e0 pre p l0 po hB h0 hp (λc a d v w h=>hQ c a d v w h) h))
end
section
variable {F:Fence} {dp:Nat} {P:Program} {ops:Array Oper} {Q:Exit→Act→World→Prop} {mt mv:List Nat}
def qP(F:Fence)(dp:Nat)(P:Program)(ops:Array Oper)(mt mv:List Nat)(Q:Exit→Act→World→Prop):Nat→Array Bool→Act→(World→Prop)→Prop
 |0,listed,a,C=>Region.ready .any ops listed=[]∧∀w',C w'→Q .normal a w'
 |fuel+1,listed,a,C=>(Region.ready .any ops listed=[]→∀w',C w'→Q .normal a w')∧
  ∀i∈Region.ready .any ops listed,∀w',C w'→wpOpIn F dp P ops Q i (λa' w''=>∃C',C' w''∧(i∈mt∨∀w,C' w→C w)∧(i∈mv∨C'=C)∧qP F dp P ops mt mv Q fuel (bR listed i) a' C') a w'
theorem anR:∀(fuel:Nat) (listed:Array Bool) (a:Act) (C:World→Prop) (w:World),C w→qP F dp P ops mt mv Q fuel listed a C→wpAnyIn F dp P .any ops Q fuel listed a w
 |0,_,_,_,w,hw,h=>⟨h.1,h.2 w hw⟩
 |fuel+1,_,_,_,w,hw,h=>⟨λe=>h.1 e w hw,λi hi=>Xr (λa' w' ⟨C',h1,_,_,h2⟩=>anR fuel _ a' C' w' h1 h2) (h.2 i hi w hw)⟩
theorem aFK(hF:oL F)(hnd:sK ops=true){o:Oper}(hi:ops[i]?=some o)(hy:YieldsIn P ops C o v a)(hu:C w1)(h:∀w2,C w2→K (a.put o.dst v) w2):wpOpIn F dp P ops Q i K a w1:=
 anW hF hnd (YieldsIn.op (Q:=iI Q) hi hy hu h)
theorem anX(hF:oL F)(hnd:sK ops=true){oj:Oper}(hj:ops[j]?=some oj)(hap:oi.apart ops oj=true)(hsi:∀cs b,oi.op≠.select cs b)(hsj:∀cs b,oj.op≠.select cs b)
  (hQ:∀c a d v w,Q (.panic c) (a.put d v) w→Q (.panic c) a w) {K:Act→World→Prop} {a:Act} {w:World} (hy:YieldsIn P ops C oi v a) (h:wpOpIn F dp P ops Q j K (a.put oi.dst v) w) :
  wpOpIn F dp P ops Q j (λa' w'=>YieldsIn P ops C oi v a'∧K (a'.put oi.dst v) w') a w:=by
 obtain⟨h1,h2,h3⟩:=Oper.apart_spec hap;have kp:∀a,YieldsIn P ops C oi v a→∀u,YieldsIn P ops C oi v (a.put oj.dst u):=λa hy u=>hy.of_same (U7 oi hsi a oj.dst u h3) (adU oi a oj.dst u h3);unfold wpOpIn at *;simp only[hj]at h ⊢;rw[adU oj a oi.dst v h1]at h;by_cases hw:Region.wanted oj (yielded ops a.tmps)=true
 ·rw[aG hw]at h ⊢;unfold Oper.wpIn at *;refine⟨λf _=>SH hF f,?_⟩;replace h:=h.2;rw[Oper.semAt_eq _ _ _ (ack hnd hj)]at h ⊢;rw[U7 oj hsj a oi.dst v h1]at h;generalize (execOp a.eval oj).run P w=r at *
  cases r with
  |halt x w'=>
   cases x<;>simp only[Oper.uponIn]at h ⊢;exact hQ _ _ _ _ _ h
  |ok nx w'=>
   cases nx<;>simp only[Oper.uponIn]at h ⊢
   case value u=>exact⟨kp a hy u,by rw[←zS a v u h2];exact h⟩
   case skip=>exact⟨kp a hy _,amq⟩
   case defer d=>
    have hd:YieldsIn P ops C oi v { a with defers:=d::a.defers }:=hy.of_same rfl rfl;exact⟨kp _ hd _,azb⟩
   case enter f args=>
    refine⟨h.1,CallsIn.mono h.2 λe w'' he=>?_⟩
    cases e with
    |returned u=>exact⟨kp a hy u,Wz⟩
    |panicked c=>exact hQ _ _ _ _ _ he
    |outgrown=>exact he
   case row=>exact⟨h.1,RowsIn.mono h.2 λu w'' he=>⟨kp a hy u,Wz⟩⟩
   case round=>
    refine⟨h.1,RoundIn.mono h.2 λe w'' he=>?_⟩
    cases e with
    |returned u=>exact⟨kp a hy u,Wz⟩
    |panicked c=>exact hQ _ _ _ _ _ he
    |outgrown=>exact he
 ·rw[aD hw]at h ⊢;exact⟨λf _=>SH hF f,kp a hy _,by rw[←zS a v undef h2];exact h.2⟩
theorem aFL{Q':Exit→Act→World→Prop}{o:Oper}{w:World}(h1:∀c a w,Q' (.panic c) a w→Q (.panic c) a w)(h2:LetsOut Q'→LetsOut Q)(h:o.wpIn F dp P a w K Q'):o.wpIn F dp P a w K Q:=by
 unfold Oper.wpIn at *;refine⟨h.1,?_⟩;replace h:=h.2;generalize (o.semAt F.round a.eval).run P w=r at *
 cases r with
 |ok nx w'=>
  cases nx<;>simp only[Oper.uponIn]at h ⊢<;>first
   |exact h
   |exact⟨h.1,CallsIn.mono h.2 (λe w'' he=>by
     cases e<;>first|exact he|exact h1 _ _ _ he|exact h2 he)⟩
   |exact⟨h.1,RoundIn.mono h.2 (λe w'' he=>by
     cases e<;>first|exact he|exact h1 _ _ _ he|exact h2 he)⟩
 |halt x w'=>
  cases x<;>simp only[Oper.uponIn]at h ⊢;exact h1 _ _ _ h
theorem aqe(hF:oL F)(hnd:sK ops=true)(hi:ops[i]?=some oi)(hsel:Region.noSelect ops=true)(hQ:∀c a d v w,Q (.panic c) (a.put d v) w→Q (.panic c) a w):
  ∀(fuel:Nat) (listed:Array Bool) (a:Act) (C:World→Prop),listed.size=ops.size→Dn ops listed→
   (∀j oj,ops[j]?=some oj→j≠i→listed.getD j true=false→(∀e∈oj.after,Region.binds .any e=true→e.on≠i)→oi.apart ops oj=true)→
   Df ops mt listed i=true→(EM oi=true∨Df ops mv listed i=true)→i∈Region.ready .any ops listed→YieldsIn P ops C oi v a→qP F dp P ops mt mv Q fuel (bR listed i) (a.put oi.dst v) C→qP F dp P ops mt mv Q (fuel+1) listed a C:=by
 intro fuel
 induction fuel with
 |zero=>
  intro listed a C hsz hD hfree hmt hnc hr hy H;refine⟨λh=>Dv,λj hj w' hw'=>?_⟩;by_cases hji:j=i
  ·subst hji;exact aFK hF hnd hi hy hw' λw2 h2=>⟨C,h2,.inr λ_ h=>h,.inr rfl,H⟩
  ·have:=uS (md:=.any) hj hji;unfold bR at H;rw[H.1]at this;cases this
 |succ n ih=>
  intro listed a C hsz hD hfree hmt hnc hr hy H;refine⟨λh=>Dv,λj hj w' hw'=>?_⟩;by_cases hji:j=i
  ·subst hji;exact aFK hF hnd hi hy hw' λw2 h2=>⟨C,h2,.inr λ_ h=>h,.inr rfl,H⟩
  ·have hir:=(yB.1 hr).1
   have hilt:i<listed.size:=by
    by_cases h:i<listed.size
    ·exact h
    ·exact aFD
   have hif:listed.getD i false=false:=Sb;have hjm:j∉mt:=NG hD hif hmt hj;have h1:=H.2 j (uS hj hji) w' hw';obtain⟨hjun,oj,hoj,hall⟩:=yB.1 hj
   have hnot:∀e∈oj.after,Region.binds .any e=true→e.on≠i:=λe he hb heq=>by
    have h2:=hall e he hb;rw[heq,hif]at h2;cases h2
   have h2:=anX hF hnd hoj (hfree j oj hoj hji hjun hnot) (λcs b=>CE hsel i oi cs b hi) (λcs b=>CE hsel j oj cs b hoj) hQ hy h1;refine Xr (λa' w'' h3=>?_) h2;obtain⟨h4,C',h5,h6,yo,h7⟩:=h3;have hsub:∀w3,C' w3→C w3:=h6.resolve_left hjm;refine⟨C',h5,h6,yo,ih (bR listed j) a' C' Sg (hD.set hj) ?_ (NF hmt) (hnc.imp id NF) (uS hr (Ay hji)) ?_ ?_⟩
   ·intro k ok hk hki hun hno;refine hfree k ok hk hki ?_ hno;by_cases hjk:j=k
    ·exact aFH
    ·exact aFI
   ·rcases h4 with⟨h8,h9⟩|h8
    ·refine .inl ⟨h8,λw3 hw3=>?_⟩;have h10:=h9 w3 (hsub w3 hw3);unfold Oper.quietAt at h10 ⊢;generalize hr3:(execOp a'.eval oi).run P w3=r at *
     cases r with
     |halt x w4=>simp only[Oper.quietUpon]at h10
     |ok n w4=>
      cases n<;>simp only[Oper.quietUpon]at h10 ⊢
      case value=>exact h10
      case skip=>exact h10
      case enter f args=>
       rcases hnc with hnc|hnc
       ·exact(NH hnc a'.eval P w3 f args w4 hr3).elim
       ·have:C'=C:=yo.resolve_left (NG hD hif hnc hj);rw[this];exact h10
    ·exact .inr h8
   ·unfold bR at h7 ⊢;rw[OA _ _ hji];exact h7
theorem aqc(hF:oL F)(hnd:sK ops=true)(hi:ops[i]?=some oi)(hsel:Region.noSelect ops=true)(hnc:EM oi=true)(hQ:∀c a d v w,Q (.panic c) (a.put d v) w→Q (.panic c) a w):
  ∀(fuel:Nat) (listed:Array Bool) (a:Act) (C:World→Prop),listed.size=ops.size→Dn ops listed→
   (∀j oj,ops[j]?=some oj→j≠i→listed.getD j true=false→(∀e∈oj.after,Region.binds .any e=true→e.on≠i)→oi.apart ops oj=true)→
   i∈Region.ready .any ops listed→YieldsIn P ops (λ_=>True) oi v a→qP F dp P ops mt mv Q fuel (bR listed i) (a.put oi.dst v) C→qP F dp P ops mt mv Q (fuel+1) listed a C:=by
 have hall:∀ {a:Act} {C:World→Prop},YieldsIn P ops (λ_=>True) oi v a→YieldsIn P ops C oi v a:=by
  intro a C hy;rcases hy with⟨h8,h9⟩|h8
  ·refine .inl ⟨h8,λw3 _=>?_⟩;have h10:=h9 w3 trivial;unfold Oper.quietAt at h10 ⊢;generalize hr3:(execOp a.eval oi).run P w3=r at *
   cases r with
   |halt x w4=>simp only[Oper.quietUpon]at h10
   |ok n w4=>
    cases n<;>simp only[Oper.quietUpon]at h10 ⊢
    case value=>exact h10
    case skip=>exact h10
    case enter f args=>exact(NH hnc a.eval P w3 f args w4 hr3).elim
  ·exact .inr h8
 intro fuel
 induction fuel with
 |zero=>
  intro listed a C hsz hD hfree hr hy H;refine⟨λh=>Dv,λj hj w' hw'=>?_⟩;by_cases hji:j=i
  ·subst hji;exact aFK hF hnd hi (hall hy) hw' λw2 h2=>⟨C,h2,.inr λ_ h=>h,.inr rfl,H⟩
  ·have:=uS (md:=.any) hj hji;unfold bR at H;rw[H.1]at this;cases this
 |succ n ih=>
  intro listed a C hsz hD hfree hr hy H;refine⟨λh=>Dv,λj hj w' hw'=>?_⟩;by_cases hji:j=i
  ·subst hji;exact aFK hF hnd hi (hall hy) hw' λw2 h2=>⟨C,h2,.inr λ_ h=>h,.inr rfl,H⟩
  ·have hir:=(yB.1 hr).1
   have hilt:i<listed.size:=by
    by_cases h:i<listed.size
    ·exact h
    ·exact aFD
   have hif:listed.getD i false=false:=Sb;have h1:=H.2 j (uS hj hji) w' hw';obtain⟨hjun,oj,hoj,hal⟩:=yB.1 hj
   have hnot:∀e∈oj.after,Region.binds .any e=true→e.on≠i:=λe he hb heq=>by
    have h2:=hal e he hb;rw[heq,hif]at h2;cases h2
   have h2:=anX hF hnd hoj (hfree j oj hoj hji hjun hnot) (λcs b=>CE hsel i oi cs b hi) (λcs b=>CE hsel j oj cs b hoj) hQ hy h1;refine Xr (λa' w'' h3=>?_) h2;obtain⟨h4,C',h5,h6,yo,h7⟩:=h3;refine⟨C',h5,h6,yo,ih (bR listed j) a' C' Sg (hD.set hj) ?_ (uS hr (Ay hji)) h4 ?_⟩
   ·intro k ok hk hki hun hno;refine hfree k ok hk hki ?_ hno;by_cases hjk:j=k
    ·exact aFH
    ·exact aFI
   ·unfold bR at h7 ⊢;rw[OA _ _ hji];exact h7
theorem ZN(hF:oL F)(hnd:sK ops=true)(hsel:Region.noSelect ops=true)(hQ:∀c a d v w,Q (.panic c) (a.put d v) w→Q (.panic c) a w):∀(q:List Nat) (lq:List Oper) (listed:Array Bool) (a:Act),
  q.map (λi=>ops[i]?)=lq.map some→xu ops mt mv q listed=true→listed.size=ops.size→Dn ops listed→wpQuiet P ops C (λa'=>qP F dp P ops mt mv Q fuel (bM listed q) a' C) lq a→qP F dp P ops mt mv Q (fuel+q.length) listed a C
 |[],lq,listed,a,hm,hs,hz,hD,h=>by
  cases lq with
  |nil=>exact h
  |cons x xs=>simp at hm
 |i::q,lq,listed,a,hm,hs,hz,hD,h=>by
  cases lq with
  |nil=>simp at hm
  |cons o lq=>
   simp only[oG,oC]at hm;obtain⟨ho,hm⟩:=hm;simp only[xu,bW,ho]at hs;obtain⟨⟨⟨⟨hr,hf⟩,hmt⟩,hnc⟩,hs⟩:=hs;have hr':i∈Region.ready .any ops listed:=zK;have hq:qOp P ops C i (wpQuiet P ops C (λa'=>qP F dp P ops mt mv Q fuel (bM (bR listed i) q) a' C) lq) a:=SC;obtain⟨v,hy,hK⟩:=SX ho hq;have:=ZN hF hnd hsel hQ q lq (bR listed i) (a.put o.dst v) hm hs Si (hD.set hr') hK;exact aqe hF hnd ho hsel hQ (fuel+q.length) listed a C hz hD (λj oj=>Qb ho hf j oj) hmt (by simpa using hnc) hr' hy this
theorem agI(hF:oL F)(hnd:sK ops=true)(hsel:Region.noSelect ops=true)(hQ:∀c a d v w,Q (.panic c) (a.put d v) w→Q (.panic c) a w):∀(q:List Nat) (lq:List Oper) (listed:Array Bool) (a:Act),
  q.map (λi=>ops[i]?)=lq.map some→oZ ops q listed=true→listed.size=ops.size→Dn ops listed→wpQuiet P ops (λ_=>True) (λa'=>qP F dp P ops mt mv Q fuel (bM listed q) a' C) lq a→qP F dp P ops mt mv Q (fuel+q.length) listed a C
 |[],lq,listed,a,hm,hs,hz,hD,h=>by
  cases lq with
  |nil=>exact h
  |cons x xs=>simp at hm
 |i::q,lq,listed,a,hm,hs,hz,hD,h=>by
  cases lq with
  |nil=>simp at hm
  |cons o lq=>
   simp only[oG,oC]at hm;obtain⟨ho,hm⟩:=hm;simp only[oZ,bW,ho]at hs;obtain⟨⟨⟨hr,hf⟩,hnc⟩,hs⟩:=hs;have hr':i∈Region.ready .any ops listed:=zK;have hq:qOp P ops (λ_=>True) i (wpQuiet P ops (λ_=>True) (λa'=>qP F dp P ops mt mv Q fuel (bM (bR listed i) q) a' C) lq) a:=SC;obtain⟨v,hy,hK⟩:=SX ho hq;have:=agI hF hnd hsel hQ q lq (bR listed i) (a.put o.dst v) hm hs Si (hD.set hr') hK;exact aqc hF hnd ho hsel hnc hQ (fuel+q.length) listed a C hz hD (λj oj=>Qb ho hf j oj) hr' hy this
def xB(F:Fence)(dp:Nat)(P:Program)(ops:Array Oper)(mt:List Nat)(Q:Exit→Act→World→Prop):List (Nat×List Oper×Nat×Oper)→List Oper→Act→(World→Prop)→Prop
 |[],fin,a,C=>wpQuiet P ops C (λa'=>∀w',C w'→Q .normal a' w') fin a
 |(e,lq,m,o)::rest,fin,a,C=>wpQuiet P ops C (λa'=>∀w',C w'→wpListIn F dp P ops (dU Q λa'' w''=>dV (mt.contains m) C w'' e∧xB F dp P ops mt Q rest fin a'' (aO e w'')) [o] a' w') lq a
theorem alI(hF:oL F)(hnd:sK ops=true)(hsel:Region.noSelect ops=true)(hQ:∀c a d v w,Q (.panic c) (a.put d v) w→Q (.panic c) a w)(fin:List Nat)(lf:List Oper)(hf:fin.map (λi=>ops[i]?)=lf.map some):∀(p:Az) (lp:List (Nat×List Oper×Nat×Oper)) (listed:Array Bool) (a:Act) (C:World→Prop),
  p.map (λx=>(x.1,x.2.1.map (λi=>ops[i]?),x.2.2,ops[x.2.2]?))=lp.map (λx=>(x.1,x.2.1.map some,x.2.2.1,some x.2.2.2))→uQ ops mt mv p fin listed=true→listed.size=ops.size→Dn ops listed→
  xB F dp P ops mt Q lp lf a C→qP F dp P ops mt mv Q (iY p fin) listed a C
 |[],lp,listed,a,C,hm,hB,hz,hD,h=>by
  cases lp with
  |cons x xs=>simp at hm
  |nil=>
   simp only[uQ,bW]at hB
   have:=ZN hF hnd (fuel:=0) (mt:=mt) (mv:=mv) (C:=C) hsel hQ fin lf listed a hf hB.1 hz hD (by
    refine(?_:wpQuiet P ops C (λa'=>qP F dp P ops mt mv Q 0 (bM listed fin) a' C) lf a)
    have e:(λa'=>qP F dp P ops mt mv Q 0 (bM listed fin) a' C)=(λa'=>∀w',C w'→Q .normal a' w'):=by
     funext a'
     simp only[qP,aay];exact⟨λh=>h.2,λh=>⟨WL,h⟩⟩
    rw[e];exact h)
   simpa[iY]using this
 |(e,q,m)::p,lp,listed,a,C,hm,hB,hz,hD,h=>by
  cases lp with
  |nil=>simp at hm
  |cons x xs=>
   obtain⟨e',lq,m',o⟩:=x;simp only[oG,oC,yX]at hm;obtain⟨⟨rfl,hq,rfl,ho⟩,hm⟩:=hm;simp only[uQ,bW]at hB;obtain⟨⟨⟨hs,hr⟩,hv⟩,hB⟩:=hB;have hr:Region.ready .any ops (bM listed q)=[m]:=zK;have rE:=Dn.setL q hD hs;have rF:(bM listed q).size=ops.size:=(ww q listed).trans hz;have hmr:m∈Region.ready .any ops (bM listed q):=Ji
   have hb:=ZN hF hnd (fuel:=iY p fin+1) (mt:=mt) (mv:=mv) (C:=C) hsel hQ q lq listed a hq hs hz hD (by
    have e1:∀a',(∀w',C w'→wpListIn F dp P ops (dU Q λa'' w''=>dV (mt.contains m) C w'' e∧xB F dp P ops mt Q xs lf a'' (aO e w'')) [o] a' w')→qP F dp P ops mt mv Q (iY p fin+1) (bM listed q) a' C:=by
     intro a' hl;refine⟨λh0=>Le,λj hj w' hw'=>?_⟩;rw[hr]at hj;obtain rfl:j=m:=Ls;have h1:=hl w' hw'
     have key:∀a2 w2,dU Q (λa'' w''=>dV (mt.contains j) C w'' e∧xB F dp P ops mt Q xs lf a'' (aO e w'')) .normal a2 w2→∃C',C' w2∧(j∈mt∨∀w,C' w→C w)∧(j∈mv∨C'=C)∧qP F dp P ops mt mv Q (iY p fin) (bR (bM listed q) j) a2 C':=by
      rintro a2 w2 ⟨h2,h3⟩;exact⟨aO e w2,Qw e w2,h2.imp aj id,.inl WM,alI hF hnd hsel hQ fin lf hf p xs _ _ _ hm hB Dz (rE.set hmr) h3⟩
     unfold wpOpIn;simp only[ho];simp only[wpListIn]at h1;by_cases hw:Region.wanted o (yielded ops a'.tmps)=true
     ·rw[aG hw]at h1 ⊢;exact Oper.wpIn_mono (λa2 w2 h=>key a2 w2 h) (aFL (Q:=Q) (λ_ _ _ h=>h) (λ⟨x,y,h⟩=>⟨x,y,h⟩) h1)
     ·rw[aD hw]at h1 ⊢;exact⟨h1.1,key _ _ h1.2⟩
    have e2:∀(l:List Oper) (a:Act),wpQuiet P ops C (λa'=>∀w',C w'→wpListIn F dp P ops (dU Q λa'' w''=>dV (mt.contains m) C w'' e∧xB F dp P ops mt Q xs lf a'' (aO e w'')) [o] a' w') l a→wpQuiet P ops C (λa'=>qP F dp P ops mt mv Q (iY p fin+1) (bM listed q) a' C) l a:=by
     intro l
     induction l with
     |nil=>exact λa h=>e1 a h
     |cons x l ih=>
      intro a h;unfold wpQuiet at h ⊢;split
      ·rename_i hw;rw[aG hw]at h;exact MF ih h
      ·rename_i hw;rw[aD hw]at h;exact ih _ h
    exact e2 lq a h)
   have:iY ((e,q,m)::p) fin=iY p fin+1+q.length:=rfl;rw[this];exact hb
theorem anM{md:Region.Mode}:∀(fuel:Nat) (listed:Array Bool) (a:Act) (w:World),wpAnyIn F dp P md ops Q fuel listed a w→wpAnyIn F dp P md ops Q (fuel+1) listed a w
 |0,_,_,_,h=>⟨λ_=>h.2,λi hi=>acQ⟩
 |fuel+1,_,_,_,h=>⟨h.1,λi hi=>Xr (λa w k=>anM fuel _ a w k) (h.2 i hi)⟩
theorem aBX{md:Region.Mode}{n m:Nat}(h:n≤m){w:World}(k:wpAnyIn F dp P md ops Q n listed a w):wpAnyIn F dp P md ops Q m listed a w:=by
 induction h with
 |refl=>exact k
 |step _ ih=>exact anM _ _ _ _ ih
theorem aBY{l:List Oper}(hF:oL F)(hnd:sK l.toArray=true){w:World}(mt mv:List Nat)(e0:Nat)(pre:List Nat)(p:Az)(fin:List Nat)(l0:List Oper)(lp:List (Nat×List Oper×Nat×Oper))(lf:List Oper)
  (hB:(Region.noSelect l.toArray&&oZ l.toArray pre (Array.replicate l.toArray.size false)&&uQ l.toArray mt mv p fin (bM (Array.replicate l.toArray.size false) pre)&&decide (iY p fin+pre.length≤l.toArray.size))=true)
  (h0:pre.map (eX l)=l0.map some) (hp:p.map (λx=>(x.1,x.2.1.map (eX l),x.2.2,eX l x.2.2))=lp.map (λx=>(x.1,x.2.1.map some,x.2.2.1,some x.2.2.2))) (hf:fin.map (eX l)=lf.map some)
  (hQ:∀c a d v w,Q (.panic c) (a.put d v) w→Q (.panic c) a w) (h:wpQuiet P l.toArray (λ_=>True) (λa'=>xB F dp P l.toArray mt Q lp lf a' (aO (e0+1) w)) l0 a):wpAnyIn F dp P .any l.toArray Q l.toArray.size (Array.replicate l.toArray.size false) a w.drew:=by
 have ha:eX l=λi=>l.toArray[i]?:=funext (MN l);rw[ha]at h0 hp hf;simp only[bW,dG]at hB
 have hw:aO (e0+1) w w.drew:=by
  cases e0
  ·exact⟨1,rfl⟩
  ·exact CB.iff.2 ⟨rfl,rfl,rfl,aV _,λ_ _=>rfl⟩
 have hD:Dn l.toArray (Array.replicate l.toArray.size false):=by
  intro k o ho hk;have:k<l.toArray.size:=(nu.1 ho).1;simp[Array.getD]at hk this;omega
 have key:∀(ll:List Oper) (a:Act),wpQuiet P l.toArray (λ_=>True) (λa'=>xB F dp P l.toArray mt Q lp lf a' (aO (e0+1) w)) ll a→wpQuiet P l.toArray (λ_=>True) (λa'=>qP F dp P l.toArray mt mv Q (iY p fin) (bM (Array.replicate l.toArray.size false) pre) a' (aO (e0+1) w)) ll a:=by
  intro ll
  induction ll with
  |nil=>exact λa h=>alI hF hnd hB.1.1.1 hQ fin lf hf p lp _ a _ hp hB.1.2 ((ww _ _).trans aj) (Dn.setL0 pre hD hB.1.1.2) h
  |cons x ll ih=>
   intro a h;unfold wpQuiet at h ⊢;split
   ·rename_i hw;rw[aG hw]at h;exact MF ih h
   ·rename_i hw;rw[aD hw]at h;exact ih _ h
 exact aBX hB.2 (anR (mt:=mt) (mv:=mv) _ _ a _ _ hw (agI hF hnd hB.1.1.1 hQ pre l0 _ a h0 hB.1.1.2 aj hD (key l0 a h)))
theorem Xp{l:List Oper}{w:World}(mt mv:List Nat)(e0:Nat)(pre:List Nat)(p:Az)(fin:List Nat)(l0:List Oper)(lp:List (Nat×List Oper×Nat×Oper))(lf:List Oper)(h:wpQuiet P l.toArray (λ_=>True) (λa'=>xB F dp P l.toArray mt Q lp lf a' (aO (e0+1) w)) l0 a)(hF:oL F:=by first|exact jJ|exact E5 _)(hnd:sK l.toArray=true:=by kernel_rfl)(hm:P.follows .mixedOrders=true:=by kernel_rfl)(hB:(Region.noSelect l.toArray&&oZ l.toArray pre (Array.replicate l.toArray.size false)&&uQ l.toArray mt mv p fin (bM (Array.replicate l.toArray.size false) pre)&&decide (iY p fin+pre.length≤l.toArray.size))=true:=by kernel_rfl)(h0:pre.map (eX l)=l0.map some:=by rfl)(hp:p.map (λx=>(x.1,x.2.1.map (eX l),x.2.2,eX l x.2.2))=lp.map (λx=>(x.1,x.2.1.map some,x.2.2.1,some x.2.2.2)):=by rfl)(hf:fin.map (eX l)=lf.map some:=by rfl)(hQ:∀c a d v w,Q (.panic c) (a.put d v) w→Q (.panic c) a w:=by intro _ _ d _ _ h;cases d<;>exact h):(Code.region id l.toArray true).wpIn F dp P Q a w:=
 ad4 hm (aBY hF hnd mt mv e0 pre p fin l0 lp lf hB h0 hp hf hQ h)
section
variable {e m:Nat} {lq fin:List Oper} {o:Oper} {rest:List (Nat×List Oper×Nat×Oper)} {a:Act} {b:World}
theorem aB7(h:wpListIn F dp P ops (dU Q λa'' w''=>dV (mt.contains m) (aO 0 b) w'' e∧xB F dp P ops mt Q rest fin a'' (aO e w'')) [o] a b):xB F dp P ops mt Q ((e,[],m,o)::rest) fin a (aO 0 b):=λw' hw=>Ij
theorem Xu(h:wpQuiet P ops (λw'=>∃p:Regrown,w'=Sort.grow (redrawn b p.d) p.os) (λa'=>∀w',BL b w'→wpListIn F dp P ops (dU Q λa'' w''=>dV (mt.contains m) (aO 2 b) w'' e∧xB F dp P ops mt Q rest fin a'' (aO e w'')) [o] a' w') lq a):xB F dp P ops mt Q ((e,lq,m,o)::rest) fin a (aO 2 b):=by
 have e1:(λa'=>∀w',BL b w'→wpListIn F dp P ops (dU Q λa'' w''=>dV (mt.contains m) (aO 2 b) w'' e∧xB F dp P ops mt Q rest fin a'' (aO e w'')) [o] a' w')=(λa'=>∀w',aO 2 b w'→wpListIn F dp P ops (dU Q λa'' w''=>dV (mt.contains m) (aO 2 b) w'' e∧xB F dp P ops mt Q rest fin a'' (aO e w'')) [o] a' w'):=by
  funext a'
  exact propext ⟨λh w' hw=>h w' (CB.iff.1 hw),λh w' hw=>h w' (CB.iff.2 hw)⟩
 rw[e1]at h;exact h
theorem SV(h:wpQuiet P ops (λw'=>∃n,w'=b.drewN n) (λa'=>∀n,Q .normal a' (b.drewN n)) fin a):xB F dp P ops mt Q [] fin a (aO 1 b):=by
 have e1:(λa'=>∀n,Q .normal a' (b.drewN n))=(λa'=>∀w',aO 1 b w'→Q .normal a' w'):=by
  funext a'
  exact propext ⟨λh w' ⟨n,hn⟩=>hn ▸ h n,λh n=>h _ ⟨n,rfl⟩⟩
 rw[e1]at h;exact h
end
end
structure Stop(p:Prop):Prop where
 o:p
theorem stop{p:Prop}(h:p):Stop p:=⟨h⟩
section
variable {P:Program} {Q:Exit→Act→World→Prop} {K:Act→World→Prop} {a:Act} {w:World}
theorem aB8(R:Act→World→Prop){c:Code}(h1:c.wp P (Exit.then R Q) a w)(h2:∀a w,R a w→K a w):c.wp P (Exit.then K Q) a w:=
 wp_mono h1 λe a w h=>by cases e<;>first|exact h2 a w h|exact h
theorem dI(d:Nat){op:Op}{pos:String}{g:Option (Nat×Bool)}(h:Stop (wpList P ops Q (⟨some d,op,ty,pos,af,g⟩::rest) a w)):wpList P ops Q (⟨some d,op,ty,pos,af,g⟩::rest) a w:=h.o
theorem Xw(R:Act→World→Prop){c:Code}(h1:Stop (c.wp P (Exit.then R Q) a w))(h2:Stop (∀a w,R a w→K a w)):c.wp P (Exit.then K Q) a w:=aB8 R h1.o h2.o
end
theorem Bg{REL:Prop}(L:List Value)(fr:(Nat→Value)→List Value)(hr:REL)(h:fr (λi=>L.getD i undef)=L):∃us:Nat→Value,REL∧Act.mk L.toArray []=Act.mk (fr us).toArray []:=⟨_,hr,by rw[h]⟩
section
attribute [local go_sem ↓] aEQ aC6
theorem axc(b l h r o:Int)(w:World)(hp:Hid (vV b l h r=true))(ho1:-b≤o)(ho2:o≤b):
  Calls prog 237 #[.agg #[b,l,h,r],o] w (UB (Gs b r o) 0 w):=by
 have hpo:=hp.o;simp[vV]at hpo;obtain⟨p1,p2,p3,p4,p5,p6,p7,p8⟩:=hpo;clear p3 p4 p5 p6;obtain⟨i0,hi,hz0,hz1,hz2⟩:=dY avE;have HW:Hid (dw o (-b) b=true):=U adq;go_enter func237,ntmps237;go_wp2_with fail;refine(ahr _ _ _ _ _ hp).mono ?_;rintro e w1 ⟨rfl,hb1⟩;have hB1:BL w w1:=Bl.call (Bl.alloc (aB _ _) _) hb1;have q0:=ZZ hb1 (o:=0) rfl;have q3:=ZZ hb1 (o:=3) rfl;have hlt1:w.heap.size<w1.heap.size:=by have:=hb1.size;simp at this;omega
 simp only[List.getElem_toArray,Zq,Hz]at q0 q3;clear hb1;go_wp2_with fail;refine(anG _ _ _ _ _ HW).mono ?_;rintro e w2 ⟨rfl,rfl⟩;go_wp2
 go_loopw [7,8] (λou i wr=>∃(k:Nat),(k:Int)≤2*b+1∧i=.int .i64 ((k:Int)-b)∧BL w1 wr∧wr.ownsRow w1.heap.size 209 3 ou (dR b r o k).length (flat3 (dR b r o k)))
  (λ_ i _=>(b+1-intOf i).toNat)
 case atStart=>exact⟨0,ae,aY,aB _ _,nJ _ _ _ _⟩
 case round=>
  obtain⟨k,hk,rfl,hb,hown⟩:=hrel;have r0:=(hb.cell (p:=⟨w.heap.size,0,none⟩) hlt1).trans q0;have r3:=(hb.cell (p:=⟨w.heap.size,3,none⟩) hlt1).trans q3;have KI:w.heap.size<wr.heap.size:=QT;have VK:=acg b r o k;by_cases hlt:(k:Int)≤2*b
  ·have hlt':decide ((k:Int)-b≤b)=true:=bC;by_cases ht1:(k:Int)-b=b
   ·have t1:((k:Int)-b==b)=true:=by simpa using ht1
    by_cases ht2:(k:Int)-b=-b
    ·have t2:((k:Int)-b==-b)=true:=adA;have oh:Hid (zy b r o ((k:Int)-b)=(-r+b+o)):=U adN;have nZ:Hid (zx b r o ((k:Int)-b)=(r-b+o)):=U adM;have g1:decide ((-r+b+o)≤0)=true:=bC;have g2:decide (0≤(r-b+o))=true:=bC;by_cases hC:r=0
     ·have g3:((-r+b+o)==0)=true:=bC;have g3b:((r-b+o)==0)=true:=bC;have hD:xS ((k:Int)-b) o≤r:=by unfold xS;omega
      have g4:decide (xS ((k:Int)-b) o≤r)=true:=Od;have HK:Hid (jZ b r o ((k:Int)-b)=true):=U DF;clear ht1 ht2 hC hD;go_wp2
      go_quiet ((go_at_call 280;exact BH (AL _ _ _ nN nN)))
      have hb5:BL w1 (wr.alloc (.cells #[.int .i64 (-r+b+o),.int .i64 (r-b+o)] 41)):=Dt;have hown5:(wr.alloc (.cells #[.int .i64 (-r+b+o),.int .i64 (r-b+o)] 41)).ownsRow w1.heap.size 209 3 u7 (dR b r o k).length (flat3 (dR b r o k)):=gV hown Dr;generalize hwq:World.drewN _ nq=wq;have hbq:BL w1 wq:=Dw;have hoq:wq.ownsRow w1.heap.size 209 3 u7 (dR b r o k).length (flat3 (dR b r o k)):=Dx;have MW:wq.cell? ⟨wr.heap.size,0,none⟩=some (.int .i64 (-r+b+o)):=zG;have MX:wq.cell? ⟨wr.heap.size,1,none⟩=some (.int .i64 (r-b+o)):=zG;have MZ:wq.cell? ⟨w.heap.size,0,none⟩=some (.int .i64 b):=N9;have hqz:wr.heap.size<wq.heap.size:=N8;have Nq:w.heap.size<wq.heap.size:=ae;clear hwq hown5 hb5;go_wp2_with (at_builtin;refine mH _ rfl _ _ 205 rfl w1.heap.size 209 i0 (.agg #[.int .i64 0,.int .i64 0,.int .i64 0]) 3 24 underlying205 hi hz0 hz1 hz2 rfl aW _ _ _ rfl (hoq.alloc _) ⟨wq.heap.size,0,none⟩ 1 1 [.int .i64 (k:Int),.int .i64 (-r+b+o),.int .i64 (r-b+o)] rfl rfl (Ko _ _ _ _ _) zI wh ae Nb ?_;intro v' w4 hown' hgrow _)
      have hb4:BL w1 w4:=K8 (Bl.alloc hbq _) (aV _) (λk hk=>(hoq.lt k hk).1) hgrow;go_roundw
      case rel=>exact⟨k+1,ae,aY,hb4,NZ⟩
      case measure=>exact aFF
     ·have g3:((-r+b+o)==0)=false:=bC;have HK:Hid (jZ b r o ((k:Int)-b)=true):=U DF;clear ht1 ht2 hC;go_wp2
      go_quiet ((go_at_call 280;exact BH (AL _ _ _ nN nN)))
      have hb5:BL w1 (wr.alloc (.cells #[.int .i64 (-r+b+o),.int .i64 (r-b+o)] 41)):=Dt;have hown5:(wr.alloc (.cells #[.int .i64 (-r+b+o),.int .i64 (r-b+o)] 41)).ownsRow w1.heap.size 209 3 u7 (dR b r o k).length (flat3 (dR b r o k)):=gV hown Dr;generalize hwq:World.drewN _ nq=wq;have hbq:BL w1 wq:=Dw;have hoq:wq.ownsRow w1.heap.size 209 3 u7 (dR b r o k).length (flat3 (dR b r o k)):=Dx;have MW:wq.cell? ⟨wr.heap.size,0,none⟩=some (.int .i64 (-r+b+o)):=zG;have MX:wq.cell? ⟨wr.heap.size,1,none⟩=some (.int .i64 (r-b+o)):=zG;have MZ:wq.cell? ⟨w.heap.size,0,none⟩=some (.int .i64 b):=N9;have hqz:wr.heap.size<wq.heap.size:=N8;have Nq:w.heap.size<wq.heap.size:=ae;clear hwq hown5 hb5;go_wp2_with (at_builtin;refine mH _ rfl _ _ 205 rfl w1.heap.size 209 i0 (.agg #[.int .i64 0,.int .i64 0,.int .i64 0]) 3 24 underlying205 hi hz0 hz1 hz2 rfl aW _ _ _ rfl (hoq.alloc _) ⟨wq.heap.size,0,none⟩ 1 1 [.int .i64 (k:Int),.int .i64 (-r+b+o),.int .i64 (r-b+o)] rfl rfl (Ko _ _ _ _ _) zI wh ae Nb ?_;intro v' w4 hown' hgrow _)
      have hb4:BL w1 w4:=K8 (Bl.alloc hbq _) (aV _) (λk hk=>(hoq.lt k hk).1) hgrow;go_roundw
      case rel=>exact⟨k+1,ae,aY,hb4,NZ⟩
      case measure=>exact aFF
    ·have t2:((k:Int)-b==-b)=false:=adA;have oh:Hid (zy b r o ((k:Int)-b)=0):=U adN;have nZ:Hid (zx b r o ((k:Int)-b)=(r-b+o)):=U adM;by_cases hA:0≤(r-b+o)
     ·have g1:decide (0≤(r-b+o))=true:=adx;by_cases hC:(r-b+o)=0
      ·have g3:((r-b+o)==0)=true:=ady;by_cases hD:xS ((k:Int)-b) o≤r
       ·have g4:decide (xS ((k:Int)-b) o≤r)=true:=Od;have HK:Hid (jZ b r o ((k:Int)-b)=true):=U DF;clear ht1 ht2 hA hC hD;go_wp2
        go_quiet ((go_at_call 280;exact BH (AL _ _ _ nN nN)))
        have hb5:BL w1 (wr.alloc (.cells #[.int .i64 0,.int .i64 (r-b+o)] 41)):=Dt;have hown5:(wr.alloc (.cells #[.int .i64 0,.int .i64 (r-b+o)] 41)).ownsRow w1.heap.size 209 3 u7 (dR b r o k).length (flat3 (dR b r o k)):=gV hown Dr;generalize hwq:World.drewN _ nq=wq;have hbq:BL w1 wq:=Dw;have hoq:wq.ownsRow w1.heap.size 209 3 u7 (dR b r o k).length (flat3 (dR b r o k)):=Dx;have MW:wq.cell? ⟨wr.heap.size,0,none⟩=some (.int .i64 0):=zG;have MX:wq.cell? ⟨wr.heap.size,1,none⟩=some (.int .i64 (r-b+o)):=zG;have MZ:wq.cell? ⟨w.heap.size,0,none⟩=some (.int .i64 b):=N9;have hqz:wr.heap.size<wq.heap.size:=N8;have Nq:w.heap.size<wq.heap.size:=ae;clear hwq hown5 hb5;go_wp2_with (at_builtin;refine mH _ rfl _ _ 205 rfl w1.heap.size 209 i0 (.agg #[.int .i64 0,.int .i64 0,.int .i64 0]) 3 24 underlying205 hi hz0 hz1 hz2 rfl aW _ _ _ rfl (hoq.alloc _) ⟨wq.heap.size,0,none⟩ 1 1 [.int .i64 (k:Int),.int .i64 0,.int .i64 (r-b+o)] rfl rfl (Ko _ _ _ _ _) zI wh ae Nb ?_;intro v' w4 hown' hgrow _)
        have hb4:BL w1 w4:=K8 (Bl.alloc hbq _) (aV _) (λk hk=>(hoq.lt k hk).1) hgrow;go_roundw
        case rel=>exact⟨k+1,ae,aY,hb4,NZ⟩
        case measure=>exact aFF
       ·have g4:decide (xS ((k:Int)-b) o≤r)=false:=Od;have HK:Hid (jZ b r o ((k:Int)-b)=false):=U DF;clear ht1 ht2 hA hC hD;go_wp2
        go_quiet ((go_at_call 280;exact BH (AL _ _ _ nN nN)))
        have hb5:BL w1 (wr.alloc (.cells #[.int .i64 0,.int .i64 (r-b+o)] 41)):=Dt;have hown5:(wr.alloc (.cells #[.int .i64 0,.int .i64 (r-b+o)] 41)).ownsRow w1.heap.size 209 3 u7 (dR b r o k).length (flat3 (dR b r o k)):=gV hown Dr;generalize hwq:World.drewN _ nq=wq;have hbq:BL w1 wq:=Dw;have hoq:wq.ownsRow w1.heap.size 209 3 u7 (dR b r o k).length (flat3 (dR b r o k)):=Dx;clear hwq hown5 hb5;go_wp2;go_roundw
        case rel=>exact⟨k+1,ae,aY,hbq,Wy⟩
        case measure=>exact aFF
      ·have g3:((r-b+o)==0)=false:=ady;have HK:Hid (jZ b r o ((k:Int)-b)=true):=U DF;clear ht1 ht2 hA hC;go_wp2
       go_quiet ((go_at_call 280;exact BH (AL _ _ _ nN nN)))
       have hb5:BL w1 (wr.alloc (.cells #[.int .i64 0,.int .i64 (r-b+o)] 41)):=Dt;have hown5:(wr.alloc (.cells #[.int .i64 0,.int .i64 (r-b+o)] 41)).ownsRow w1.heap.size 209 3 u7 (dR b r o k).length (flat3 (dR b r o k)):=gV hown Dr;generalize hwq:World.drewN _ nq=wq;have hbq:BL w1 wq:=Dw;have hoq:wq.ownsRow w1.heap.size 209 3 u7 (dR b r o k).length (flat3 (dR b r o k)):=Dx;have MW:wq.cell? ⟨wr.heap.size,0,none⟩=some (.int .i64 0):=zG;have MX:wq.cell? ⟨wr.heap.size,1,none⟩=some (.int .i64 (r-b+o)):=zG;have MZ:wq.cell? ⟨w.heap.size,0,none⟩=some (.int .i64 b):=N9;have hqz:wr.heap.size<wq.heap.size:=N8;have Nq:w.heap.size<wq.heap.size:=ae;clear hwq hown5 hb5;go_wp2_with (at_builtin;refine mH _ rfl _ _ 205 rfl w1.heap.size 209 i0 (.agg #[.int .i64 0,.int .i64 0,.int .i64 0]) 3 24 underlying205 hi hz0 hz1 hz2 rfl aW _ _ _ rfl (hoq.alloc _) ⟨wq.heap.size,0,none⟩ 1 1 [.int .i64 (k:Int),.int .i64 0,.int .i64 (r-b+o)] rfl rfl (Ko _ _ _ _ _) zI wh ae Nb ?_;intro v' w4 hown' hgrow _)
       have hb4:BL w1 w4:=K8 (Bl.alloc hbq _) (aV _) (λk hk=>(hoq.lt k hk).1) hgrow;go_roundw
       case rel=>exact⟨k+1,ae,aY,hb4,NZ⟩
       case measure=>exact aFF
     ·have g1:decide (0≤(r-b+o))=false:=adx;have HK:Hid (jZ b r o ((k:Int)-b)=false):=U DF;clear ht1 ht2 hA;go_wp2
      go_quiet ((go_at_call 280;exact BH (AL _ _ _ nN nN)))
      have hb5:BL w1 (wr.alloc (.cells #[.int .i64 0,.int .i64 (r-b+o)] 41)):=Dt;have hown5:(wr.alloc (.cells #[.int .i64 0,.int .i64 (r-b+o)] 41)).ownsRow w1.heap.size 209 3 u7 (dR b r o k).length (flat3 (dR b r o k)):=gV hown Dr;generalize hwq:World.drewN _ nq=wq;have hbq:BL w1 wq:=Dw;have hoq:wq.ownsRow w1.heap.size 209 3 u7 (dR b r o k).length (flat3 (dR b r o k)):=Dx;clear hwq hown5 hb5;go_wp2;go_roundw
      case rel=>exact⟨k+1,ae,aY,hbq,Wy⟩
      case measure=>exact aFF
   ·have t1:((k:Int)-b==b)=false:=by simpa using ht1
    by_cases ht2:(k:Int)-b=-b
    ·have t2:((k:Int)-b==-b)=true:=adA;have oh:Hid (zy b r o ((k:Int)-b)=(-r+b+o)):=U adN;have nZ:Hid (zx b r o ((k:Int)-b)=0):=U adM;by_cases hA:(-r+b+o)≤0
     ·have g1:decide ((-r+b+o)≤0)=true:=adx;by_cases hC:(-r+b+o)=0
      ·have g3:((-r+b+o)==0)=true:=ady;by_cases hD:xS ((k:Int)-b) o≤r
       ·have g4:decide (xS ((k:Int)-b) o≤r)=true:=Od;have HK:Hid (jZ b r o ((k:Int)-b)=true):=U DF;clear ht1 ht2 hA hC hD;go_wp2
        go_quiet ((go_at_call 280;exact BH (AL _ _ _ nN nN)))
        have hb5:BL w1 (wr.alloc (.cells #[.int .i64 (-r+b+o),.int .i64 0] 41)):=Dt;have hown5:(wr.alloc (.cells #[.int .i64 (-r+b+o),.int .i64 0] 41)).ownsRow w1.heap.size 209 3 u7 (dR b r o k).length (flat3 (dR b r o k)):=gV hown Dr;generalize hwq:World.drewN _ nq=wq;have hbq:BL w1 wq:=Dw;have hoq:wq.ownsRow w1.heap.size 209 3 u7 (dR b r o k).length (flat3 (dR b r o k)):=Dx;have MW:wq.cell? ⟨wr.heap.size,0,none⟩=some (.int .i64 (-r+b+o)):=zG;have MX:wq.cell? ⟨wr.heap.size,1,none⟩=some (.int .i64 0):=zG;have MZ:wq.cell? ⟨w.heap.size,0,none⟩=some (.int .i64 b):=N9;have hqz:wr.heap.size<wq.heap.size:=N8;have Nq:w.heap.size<wq.heap.size:=ae;clear hwq hown5 hb5;go_wp2_with (at_builtin;refine mH _ rfl _ _ 205 rfl w1.heap.size 209 i0 (.agg #[.int .i64 0,.int .i64 0,.int .i64 0]) 3 24 underlying205 hi hz0 hz1 hz2 rfl aW _ _ _ rfl (hoq.alloc _) ⟨wq.heap.size,0,none⟩ 1 1 [.int .i64 (k:Int),.int .i64 (-r+b+o),.int .i64 0] rfl rfl (Ko _ _ _ _ _) zI wh ae Nb ?_;intro v' w4 hown' hgrow _)
        have hb4:BL w1 w4:=K8 (Bl.alloc hbq _) (aV _) (λk hk=>(hoq.lt k hk).1) hgrow;go_roundw
        case rel=>exact⟨k+1,ae,aY,hb4,NZ⟩
        case measure=>exact aFF
       ·have g4:decide (xS ((k:Int)-b) o≤r)=false:=Od;have HK:Hid (jZ b r o ((k:Int)-b)=false):=U DF;clear ht1 ht2 hA hC hD;go_wp2
        go_quiet ((go_at_call 280;exact BH (AL _ _ _ nN nN)))
        have hb5:BL w1 (wr.alloc (.cells #[.int .i64 (-r+b+o),.int .i64 0] 41)):=Dt;have hown5:(wr.alloc (.cells #[.int .i64 (-r+b+o),.int .i64 0] 41)).ownsRow w1.heap.size 209 3 u7 (dR b r o k).length (flat3 (dR b r o k)):=gV hown Dr;generalize hwq:World.drewN _ nq=wq;have hbq:BL w1 wq:=Dw;have hoq:wq.ownsRow w1.heap.size 209 3 u7 (dR b r o k).length (flat3 (dR b r o k)):=Dx;clear hwq hown5 hb5;go_wp2;go_roundw
        case rel=>exact⟨k+1,ae,aY,hbq,Wy⟩
        case measure=>exact aFF
      ·have g3:((-r+b+o)==0)=false:=ady;have HK:Hid (jZ b r o ((k:Int)-b)=true):=U DF;clear ht1 ht2 hA hC;go_wp2
       go_quiet ((go_at_call 280;exact BH (AL _ _ _ nN nN)))
       have hb5:BL w1 (wr.alloc (.cells #[.int .i64 (-r+b+o),.int .i64 0] 41)):=Dt;have hown5:(wr.alloc (.cells #[.int .i64 (-r+b+o),.int .i64 0] 41)).ownsRow w1.heap.size 209 3 u7 (dR b r o k).length (flat3 (dR b r o k)):=gV hown Dr;generalize hwq:World.drewN _ nq=wq;have hbq:BL w1 wq:=Dw;have hoq:wq.ownsRow w1.heap.size 209 3 u7 (dR b r o k).length (flat3 (dR b r o k)):=Dx;have MW:wq.cell? ⟨wr.heap.size,0,none⟩=some (.int .i64 (-r+b+o)):=zG;have MX:wq.cell? ⟨wr.heap.size,1,none⟩=some (.int .i64 0):=zG;have MZ:wq.cell? ⟨w.heap.size,0,none⟩=some (.int .i64 b):=N9;have hqz:wr.heap.size<wq.heap.size:=N8;have Nq:w.heap.size<wq.heap.size:=ae;clear hwq hown5 hb5;go_wp2_with (at_builtin;refine mH _ rfl _ _ 205 rfl w1.heap.size 209 i0 (.agg #[.int .i64 0,.int .i64 0,.int .i64 0]) 3 24 underlying205 hi hz0 hz1 hz2 rfl aW _ _ _ rfl (hoq.alloc _) ⟨wq.heap.size,0,none⟩ 1 1 [.int .i64 (k:Int),.int .i64 (-r+b+o),.int .i64 0] rfl rfl (Ko _ _ _ _ _) zI wh ae Nb ?_;intro v' w4 hown' hgrow _)
       have hb4:BL w1 w4:=K8 (Bl.alloc hbq _) (aV _) (λk hk=>(hoq.lt k hk).1) hgrow;go_roundw
       case rel=>exact⟨k+1,ae,aY,hb4,NZ⟩
       case measure=>exact aFF
     ·have g1:decide ((-r+b+o)≤0)=false:=adx;have HK:Hid (jZ b r o ((k:Int)-b)=false):=U DF;clear ht1 ht2 hA;go_wp2
      go_quiet ((go_at_call 280;exact BH (AL _ _ _ nN nN)))
      have hb5:BL w1 (wr.alloc (.cells #[.int .i64 (-r+b+o),.int .i64 0] 41)):=Dt;have hown5:(wr.alloc (.cells #[.int .i64 (-r+b+o),.int .i64 0] 41)).ownsRow w1.heap.size 209 3 u7 (dR b r o k).length (flat3 (dR b r o k)):=gV hown Dr;generalize hwq:World.drewN _ nq=wq;have hbq:BL w1 wq:=Dw;have hoq:wq.ownsRow w1.heap.size 209 3 u7 (dR b r o k).length (flat3 (dR b r o k)):=Dx;clear hwq hown5 hb5;go_wp2;go_roundw
      case rel=>exact⟨k+1,ae,aY,hbq,Wy⟩
      case measure=>exact aFF
    ·have t2:((k:Int)-b==-b)=false:=adA;have oh:Hid (zy b r o ((k:Int)-b)=0):=U adN;have nZ:Hid (zx b r o ((k:Int)-b)=0):=U adM;by_cases hD:xS ((k:Int)-b) o≤r
     ·have g4:decide (xS ((k:Int)-b) o≤r)=true:=Od;have HK:Hid (jZ b r o ((k:Int)-b)=true):=U DF;clear ht1 ht2 hD;go_wp2
      go_quiet ((go_at_call 280;exact BH (AL _ _ _ nN nN)))
      have hb5:BL w1 (wr.alloc (.cells #[.int .i64 0,.int .i64 0] 41)):=Dt;have hown5:(wr.alloc (.cells #[.int .i64 0,.int .i64 0] 41)).ownsRow w1.heap.size 209 3 u7 (dR b r o k).length (flat3 (dR b r o k)):=gV hown Dr;generalize hwq:World.drewN _ nq=wq;have hbq:BL w1 wq:=Dw;have hoq:wq.ownsRow w1.heap.size 209 3 u7 (dR b r o k).length (flat3 (dR b r o k)):=Dx;have MW:wq.cell? ⟨wr.heap.size,0,none⟩=some (.int .i64 0):=zG;have MX:wq.cell? ⟨wr.heap.size,1,none⟩=some (.int .i64 0):=zG;have MZ:wq.cell? ⟨w.heap.size,0,none⟩=some (.int .i64 b):=N9;have hqz:wr.heap.size<wq.heap.size:=N8;have Nq:w.heap.size<wq.heap.size:=ae;clear hwq hown5 hb5;go_wp2_with (at_builtin;refine mH _ rfl _ _ 205 rfl w1.heap.size 209 i0 (.agg #[.int .i64 0,.int .i64 0,.int .i64 0]) 3 24 underlying205 hi hz0 hz1 hz2 rfl aW _ _ _ rfl (hoq.alloc _) ⟨wq.heap.size,0,none⟩ 1 1 [.int .i64 (k:Int),.int .i64 0,.int .i64 0] rfl rfl (Ko _ _ _ _ _) zI wh ae Nb ?_;intro v' w4 hown' hgrow _)
      have hb4:BL w1 w4:=K8 (Bl.alloc hbq _) (aV _) (λk hk=>(hoq.lt k hk).1) hgrow;go_roundw
      case rel=>exact⟨k+1,ae,aY,hb4,NZ⟩
      case measure=>exact aFF
     ·have g4:decide (xS ((k:Int)-b) o≤r)=false:=Od;have HK:Hid (jZ b r o ((k:Int)-b)=false):=U DF;clear ht1 ht2 hD;go_wp2
      go_quiet ((go_at_call 280;exact BH (AL _ _ _ nN nN)))
      have hb5:BL w1 (wr.alloc (.cells #[.int .i64 0,.int .i64 0] 41)):=Dt;have hown5:(wr.alloc (.cells #[.int .i64 0,.int .i64 0] 41)).ownsRow w1.heap.size 209 3 u7 (dR b r o k).length (flat3 (dR b r o k)):=gV hown Dr;generalize hwq:World.drewN _ nq=wq;have hbq:BL w1 wq:=Dw;have hoq:wq.ownsRow w1.heap.size 209 3 u7 (dR b r o k).length (flat3 (dR b r o k)):=Dx;clear hwq hown5 hb5;go_wp2;go_roundw
      case rel=>exact⟨k+1,ae,aY,hbq,Wy⟩
      case measure=>exact aFF
  ·have hkk:(k:Int)=2*b+1:=ae;have hlt':decide ((k:Int)-b≤b)=false:=bC
   have HT:Hid (CG wr u7 (Gs b r o)):=by
    have e:Gs b r o=dR b r o k:=by unfold Gs;congr 1;omega
    rw[e];exact U (aAN hown)
   clear hown;go_wp2;go_ret2;exact⟨_,rfl,HT.o,hB1.trans (hb.mono hB1.size)⟩
end
theorem axb(b l h r o:Int)(w:World)(hp:Hid (vV b l h r=false)):
  Calls prog 237 #[.agg #[b,l,h,r],o] w (UB [] 30 w):=by
 go_enter func237,ntmps237;go_wp2_with fail;refine(art _ _ _ _ _ hp).mono ?_;rintro e w1 ⟨rfl,hb1⟩;go_wp2;go_ret2;exact⟨_,rfl,CG.nil,Bl.call (Bl.alloc (aB _ _) _) qI⟩
theorem axa(b l h r o:Int)(w:World)(hp:Hid (vV b l h r=true))(HW:Hid (dw o (-b) b=false)):
  Calls prog 237 #[.agg #[b,l,h,r],o] w (UB [] 1 w):=by
 have hpo:=hp.o;simp[vV]at hpo;obtain⟨p1,p2,p3,p4,p5,p6,p7,p8⟩:=hpo;clear p3 p4 p5 p6;go_enter func237,ntmps237;go_wp2_with fail;refine(ahr _ _ _ _ _ hp).mono ?_;rintro e w1 ⟨rfl,hb1⟩;have q0:=ZZ hb1 (o:=0) rfl;have hlt1:w.heap.size<w1.heap.size:=by have:=hb1.size;simp at this;omega
 simp only[List.getElem_toArray,Zq]at q0;go_wp2_with fail;refine(anG _ _ _ _ _ HW).mono ?_;rintro e w2 ⟨rfl,rfl⟩;go_wp2;go_ret2;exact⟨_,rfl,CG.nil,Bl.call (Bl.alloc (aB _ _) _) qI⟩
theorem apY(b l h r o:Int)(w:World):
  Calls prog 237 #[.agg #[b,l,h,r],o] w (UB (KX b l h r o).1 (KX b l h r o).2 w):=by
 unfold KX;cases hp:vV b l h r
 ·simpa using axb b l h r o w (U hp)
 ·cases ho:dw o (-b) b
  ·simpa using axa b l h r o w (U hp) (U ho)
  ·have:=axc b l h r o w (U hp) (by simp[dw]at ho;omega) (by simp[dw]at ho;omega);simpa using this
end Go.Proofs.YtfmckbjeofiegaaGreat
